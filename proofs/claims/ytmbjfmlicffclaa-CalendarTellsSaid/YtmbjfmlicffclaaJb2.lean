/-
  Spaces: what each function of the package does, and what the laws make of it.
-/
import Derived.Test.YtmbjfmlicffclaaJb1
import Derived.Handy
import Derived.Test.YtmbjfmlicffclaaJa
import Derived.Scope
import Derived.Control
import Derived.Maps.AppendAt
import Derived.Test.YtmbjfmlicffclaaShelf
import Derived.Lib.OwnBridge
set_option linter.unusedSimpArgs false
set_option linter.unusedVariables false

/-
  calendar: an act on a list.
-/
namespace Go.Proofs.Ytmbjfmlicffclaa
open Go Go.RowKit
attribute [local go_sem ↓] Go.wp_at_zero Go.wp_at_succ
attribute [local go_sem] Oper.semAt_some wide_fn wide_depth wide_fnR wide_depthR

/-- What one event told: it, or an error. -/
def OneT (t : Tl) : Prop := (t.err = 0 ∧ t.evs = [t.first]) ∨ (t.err ≠ 0 ∧ t.evs = [])
theorem takeC_one (E : List Ev) : OneT (takeC E).2 := by
 cases E with
 | nil => exact .inr ⟨by simp [takeC], rfl⟩
 | cons x r => exact .inl ⟨rfl, rfl⟩
theorem cancelC_one (p : Int × Int) (E : List Ev) : OneT (cancelC p E).2 := by
 unfold cancelC
 cases findE p E with
 | none => exact .inr ⟨by simp, rfl⟩
 | some x => exact .inl ⟨rfl, rfl⟩
set_option maxRecDepth 100000 in
set_option maxHeartbeats 1000000 in
theorem one_told {t : Tl} (ht : OneT t) (w : World) : Calls Try.prog 94 #[evV t.first, .int .i64 t.err] w fun e w' => ∃ v, e = .returned (.agg #[.int .i64 t.err, v]) ∧ w'.ownsRow w.heap.size 47 5 v t.evs.length (flatEv t.evs) ∧ Fr0 none' w w' := by
 obtain ⟨x, hx⟩ : ∃ x, t.first = x := ⟨_, rfl⟩
 obtain ⟨c, hc⟩ : ∃ x, t.err = x := ⟨_, rfl⟩
 unfold OneT at ht
 rw [hx, hc] at ht
 rw [hx, hc]
 unfold evV
 rcases ht with ⟨h0, h1⟩ | ⟨h0, h1⟩
 ·rw [h1]
  subst h0
  clear hx hc h1
  go_enter Try.func94, Try.ntmps94
  go_wp2_with fail
  obtain ⟨V1, hV1⟩ : ∃ V, w.alloc (.cells #[.int .i64 x.key.time, .int .i64 x.key.source, .int .i64 x.key.seq, .int .i64 x.to, .int .i64 x.value] 47) = V := ⟨_, rfl⟩
  have z1 : V1.heap.size = w.heap.size + 1 := by rw [← hV1, World.size_alloc]
  obtain ⟨V2, hV2⟩ : ∃ V, V1.alloc (.cells #[.int .i64 0, .slice (some ⟨w.heap.size + 1 + 1, 0, none⟩) 1 1] 51) = V := ⟨_, rfl⟩
  have z2 : V2.heap.size = w.heap.size + 1 + 1 := by rw [← hV2, World.size_alloc, z1]
  have b2 : V2.heap[w.heap.size + 1]? = some (.cells #[.int .i64 0, .slice (some ⟨w.heap.size + 1 + 1, 0, none⟩) 1 1] 51 (0, 0)) := by rw [← hV2, ← z1]; exact World.alloc_heap_new _ _
  obtain ⟨V3, hV3⟩ : ∃ V, V2.alloc (.cells (cev x).toArray 47) = V := ⟨_, rfl⟩
  have f3 : Fr0 none' V2 V3 := by rw [← hV3]; exact (Fr0.refl _ _).alloc _
  have b3 : V3.heap[w.heap.size + 1 + 1]? = some (.cells (cev x).toArray 47 (0, 0)) := by rw [← hV3, ← z2]; exact World.alloc_heap_new _ _
  have hF : Fr0 none' w V3 := ((show Fr0 none' w V1 by rw [← hV1]; exact (Fr0.refl _ _).alloc _).trans (show Fr0 none' V1 V2 by rw [← hV2]; exact (Fr0.refl _ _).alloc _)).trans f3
  have b4 := (f3.block _ (by omega) id).trans b2
  have y0 := cells_in b4 0
  have y1 := cells_in b4 1
  simp at y0 y1
  have hrow : V3.ownsRow w.heap.size 47 5 (.slice (some ⟨w.heap.size + 1 + 1, 0, none⟩) 1 1) 1 (flatEv [x]) := ⟨rfl, .inr ⟨_, 1, _, rfl, by omega, b3, Nat.le_refl _, by unfold maxLen; omega, rfl, rfl⟩⟩
  rw [show ((w.alloc _).alloc _).alloc _ = V3 from by rw [hV1, hV2]; exact hV3]
  exact bodyPost_ret (v := .agg #[.int .i64 0, .slice (some ⟨w.heap.size + 1 + 1, 0, none⟩) 1 1]) (by simp [results, Try.results94, go_sem, y0, y1]) rfl ⟨_, rfl, hrow, hF⟩
 ·rw [h1]
  have d1 : (c != 0) = true := by simpa using h0
  clear hx hc h1 h0
  go_enter Try.func94, Try.ntmps94
  go_wp2_with fail
  obtain ⟨V1, hV1⟩ : ∃ V, w.alloc (.cells #[.int .i64 x.key.time, .int .i64 x.key.source, .int .i64 x.key.seq, .int .i64 x.to, .int .i64 x.value] 47) = V := ⟨_, rfl⟩
  have z1 : V1.heap.size = w.heap.size + 1 := by rw [← hV1, World.size_alloc]
  obtain ⟨V2, hV2⟩ : ∃ V, V1.alloc (.cells #[.int .i64 c, .slice none 0 0] 51) = V := ⟨_, rfl⟩
  have b2 : V2.heap[w.heap.size + 1]? = some (.cells #[.int .i64 c, .slice none 0 0] 51 (0, 0)) := by rw [← hV2, ← z1]; exact World.alloc_heap_new _ _
  have hF : Fr0 none' w V2 := (show Fr0 none' w V1 by rw [← hV1]; exact (Fr0.refl _ _).alloc _).trans (show Fr0 none' V1 V2 by rw [← hV2]; exact (Fr0.refl _ _).alloc _)
  have y0 := cells_in b2 0
  have y1 := cells_in b2 1
  simp at y0 y1
  rw [hV1, hV2]
  exact bodyPost_ret (v := .agg #[.int .i64 c, .slice none 0 0]) (by simp [results, Try.results94, go_sem, y0, y1]) rfl ⟨_, rfl, World.ownsRow_nil _ _ _ _, hF⟩
end Go.Proofs.Ytmbjfmlicffclaa

/-
  calendar: do with a list.
-/
namespace Go.Proofs.Ytmbjfmlicffclaa
open Go Go.RowKit
attribute [local go_sem ↓] Go.wp_at_zero Go.wp_at_succ
attribute [local go_sem] Oper.semAt_some wide_fn wide_depth wide_fnR wide_depthR

def actCV (a : Ca) : Value := .agg #[.int .u8 a.kind, .int .i64 a.x.key.time, .int .i64 a.x.key.source, .int .i64 a.x.key.seq, .int .i64 a.x.to, .int .i64 a.x.value, .int .i64 a.time]
/-- What an act tells, and what it leaves. -/
def DoT (w : World) (ft : Nat → Prop) (t : Tl) (K : (Nat → Prop) → World → Prop) (e : Ending) (w' : World) : Prop :=
 ∃ v ft', e = .returned (.agg #[.int .i64 t.err, v]) ∧ w'.ownsRow w.heap.size 47 5 v t.evs.length (flatEv t.evs) ∧ K ft' w' ∧ (∀ k, ft' k → ft k ∨ w.heap.size ≤ k) ∧ (∀ g, v.ownBlock = some g → ¬ ft' g) ∧ Fr0 ft w w'
set_option maxRecDepth 100000 in
set_option maxHeartbeats 2000000 in
theorem do_list1 {w : World} {lb n : Nat} {E : List Ev} {ft : Nat → Prop} (h : LIs w lb n E ft) (x : Ev) (t : Int) :
  Calls Try.prog 74 #[.iface 88 (.pointer (some ⟨lb, 0, none⟩)), actCV ⟨1, x, t⟩] w (DoT w ft (doC n E ⟨1, x, t⟩).2 (fun ft' w' => LIs w' lb n (doC n E ⟨1, x, t⟩).1 ft')) := by
 have H := Lib.hid h
 clear h
 unfold actCV doC
 rw [if_pos rfl]
 obtain ⟨V1, hV1⟩ : ∃ V, w.alloc (.cells #[.int .u8 1, .int .i64 x.key.time, .int .i64 x.key.source, .int .i64 x.key.seq, .int .i64 x.to, .int .i64 x.value, .int .i64 t] 49) = V := ⟨_, rfl⟩
 have z1 : V1.heap.size = w.heap.size + 1 := by rw [← hV1, World.size_alloc]
 have f1 : Fr0 none' w V1 := by rw [← hV1]; exact (Fr0.refl _ _).alloc _
 have a1 : V1.heap[w.heap.size]? = some (.cells #[.int .u8 1, .int .i64 x.key.time, .int .i64 x.key.source, .int .i64 x.key.seq, .int .i64 x.to, .int .i64 x.value, .int .i64 t] 49 (0, 0)) := by rw [← hV1]; exact World.alloc_heap_new _ _
 obtain ⟨V2, hV2⟩ : ∃ V, V1.alloc (.cells #[.int .i64 0, .slice none 0 0] 51) = V := ⟨_, rfl⟩
 have f2 : Fr0 none' V1 V2 := by rw [← hV2]; exact (Fr0.refl _ _).alloc _
 have b2 : V2.heap[w.heap.size + 1]? = some (.cells #[.int .i64 0, .slice none 0 0] 51 (0, 0)) := by rw [← hV2, ← z1]; exact World.alloc_heap_new _ _
 have a2 := (f2.block w.heap.size (by omega) id).trans a1
 have Z2 := Lib.hid (show V2.heap.size = w.heap.size + 2 by rw [← hV2, World.size_alloc, z1])
 have F2 := Lib.hid (f1.trans f2)
 have B2 := Lib.hid b2
 have A2 := Lib.hid a2
 have H2 := Lib.hid (H.out.later F2.out)
 have HRB := Lib.hid (show ∀ k, ft k → k < w.heap.size from H.out.lt)
 clear f1 a1 f2 b2 a2 z1
 have HP := Lib.hid (H2.out.put x)
 obtain ⟨c, hc⟩ : ∃ c, (allV n E [x]).2 = c := ⟨_, rfl⟩
 rw [hc] at HP
 have Hc := Lib.hid hc
 clear hc
 unfold evV at HP
 subst hV2
 subst hV1
 go_enter Try.func74, Try.ntmps74
 go_wp2_with fail
 refine HP.out.mono ?_
 rintro e w3 ⟨rfl, ft', hl, hft, hf⟩
 have b3 := (hf.block (w.heap.size + 1) (Array.getElem?_eq_some_iff.1 B2.out).1 (fun hk => by have := HRB.out _ hk; omega)).trans B2.out
 have t0 := thaw_in b3 0
 have t1 := thaw_in b3 1
 have u0 := cells_in b3 0
 have u1 := cells_in b3 1
 simp at u0 u1
 have B3 := Lib.hid b3
 clear b3
 have HL := Lib.hid hl
 have HF := Lib.hid hf
 have HT := Lib.hid hft
 clear hl hf hft
 go_wp2_with fail
 have e6 : ((w3.setCell ⟨w.heap.size + 1, 0, none⟩ (.int .i64 c)).setCell ⟨w.heap.size + 1, 1, none⟩ (.slice none 0 0)).heap[w.heap.size + 1]? = some (.cells #[.int .i64 c, .slice none 0 0] 51 (0, 0)) := heap_set_cell (heap_set_cell B3.out _) _
 have f6 : Fr0 (fun k => k = w.heap.size + 1) w3 ((w3.setCell ⟨w.heap.size + 1, 0, none⟩ (.int .i64 c)).setCell ⟨w.heap.size + 1, 1, none⟩ (.slice none 0 0)) := ((Fr0.refl (fun k => k = w.heap.size + 1) w3).setCell (fun _ => rfl) _).setCell (fun _ => rfl) _
 generalize (w3.setCell ⟨w.heap.size + 1, 0, none⟩ (.int .i64 c)).setCell ⟨w.heap.size + 1, 1, none⟩ (.slice none 0 0) = VV at e6 f6 ⊢
 have y0 := cells_in e6 0
 have y1 := cells_in e6 1
 simp at y0 y1
 have hne : ∀ k, ft' k → ¬ (k = w.heap.size + 1) := fun k hk e => by
  rcases HT.out k hk with h | h
  ·have := HRB.out k h; omega
  ·have := Z2.out; omega
 have hft9 : ∀ k, ft' k → ft k ∨ w.heap.size ≤ k := fun k hk => (HT.out k hk).imp id (fun h => by have := Z2.out; omega)
 have hfr9 : Fr0 ft w VV := ((F2.out.mono (S' := ft) (fun _ _ h => h.elim)).trans HF.out).trans' f6 (fun k hk e => by have e : k = w.heap.size + 1 := e; omega)
 exact bodyPost_ret (v := .agg #[.int .i64 c, .slice none 0 0]) (by simp [results, Try.results74, go_sem, y0, y1]) rfl ⟨.slice none 0 0, ft', by rw [Hc.out], World.ownsRow_nil _ _ _ _, HL.out.fr0 f6 hne, hft9, (fun g e => by cases e), hfr9⟩
set_option maxRecDepth 100000 in
set_option maxHeartbeats 2000000 in
theorem do_list2 {w : World} {lb n : Nat} {E : List Ev} {ft : Nat → Prop} (h : LIs w lb n E ft) (x : Ev) (t : Int) :
  Calls Try.prog 74 #[.iface 88 (.pointer (some ⟨lb, 0, none⟩)), actCV ⟨2, x, t⟩] w (DoT w ft (doC n E ⟨2, x, t⟩).2 (fun ft' w' => LIs w' lb n (doC n E ⟨2, x, t⟩).1 ft')) := by
 have H := Lib.hid h
 clear h
 have hdo : doC n E ⟨2, x, t⟩ = takeC E := by unfold doC; simp
 rw [hdo]
 clear hdo
 unfold actCV
 obtain ⟨V1, hV1⟩ : ∃ V, w.alloc (.cells #[.int .u8 2, .int .i64 x.key.time, .int .i64 x.key.source, .int .i64 x.key.seq, .int .i64 x.to, .int .i64 x.value, .int .i64 t] 49) = V := ⟨_, rfl⟩
 have z1 : V1.heap.size = w.heap.size + 1 := by rw [← hV1, World.size_alloc]
 have f1 : Fr0 none' w V1 := by rw [← hV1]; exact (Fr0.refl _ _).alloc _
 have a1 : V1.heap[w.heap.size]? = some (.cells #[.int .u8 2, .int .i64 x.key.time, .int .i64 x.key.source, .int .i64 x.key.seq, .int .i64 x.to, .int .i64 x.value, .int .i64 t] 49 (0, 0)) := by rw [← hV1]; exact World.alloc_heap_new _ _
 obtain ⟨V2, hV2⟩ : ∃ V, V1.alloc (.cells #[.int .i64 0, .slice none 0 0] 51) = V := ⟨_, rfl⟩
 have f2 : Fr0 none' V1 V2 := by rw [← hV2]; exact (Fr0.refl _ _).alloc _
 have b2 : V2.heap[w.heap.size + 1]? = some (.cells #[.int .i64 0, .slice none 0 0] 51 (0, 0)) := by rw [← hV2, ← z1]; exact World.alloc_heap_new _ _
 have a2 := (f2.block w.heap.size (by omega) id).trans a1
 have Z2 := Lib.hid (show V2.heap.size = w.heap.size + 2 by rw [← hV2, World.size_alloc, z1])
 have F2 := Lib.hid (f1.trans f2)
 have B2 := Lib.hid b2
 have A2 := Lib.hid a2
 have H2 := Lib.hid (H.out.later F2.out)
 have HRB := Lib.hid (show ∀ k, ft k → k < w.heap.size from H.out.lt)
 clear f1 a1 f2 b2 a2 z1
 have HP := Lib.hid (H2.out.take)
 have ht := (takeC_one E)
 obtain ⟨R, hR⟩ : ∃ R, takeC E = R := ⟨_, rfl⟩
 rw [hR] at HP ht ⊢
 clear hR
 have HO := Lib.hid (fun W => one_told ht W)
 clear ht
 have HPP := HP
 unfold evV at HP HO
 skip
 subst hV2
 subst hV1
 go_enter Try.func74, Try.ntmps74
 go_wp2_with fail
 refine HP.out.mono ?_
 rintro e w3 ⟨rfl, hl, hf⟩
 have HL := Lib.hid hl
 have HF := Lib.hid hf
 clear hl hf
 go_wp2_with fail
 refine (HO.out w3).mono ?_
 rintro e w4 ⟨v, rfl, hrow, hf4⟩
 have HF4 := Lib.hid (HF.out.trans' hf4 (fun _ _ h => h.elim))
 have b3 := (HF4.out.block (w.heap.size + 1) (Array.getElem?_eq_some_iff.1 B2.out).1 (fun hk => by have := HRB.out _ hk; omega)).trans B2.out
 have t0 := thaw_in b3 0
 have t1 := thaw_in b3 1
 have u0 := cells_in b3 0
 have u1 := cells_in b3 1
 simp at u0 u1
 have B3 := Lib.hid b3
 clear b3
 have HR := Lib.hid hrow
 have HL := Lib.hid (HL.out.later hf4)
 have HS := Lib.hid HF.out.size
 obtain ⟨ra, rc, hv, _, _⟩ := EsIn.of_own hrow
 clear hrow hf4
 subst hv
 go_wp2_with fail
 have e6 : ((w4.setCell ⟨w.heap.size + 1, 0, none⟩ (.int .i64 R.2.err)).setCell ⟨w.heap.size + 1, 1, none⟩ (.slice ra R.2.evs.length rc)).heap[w.heap.size + 1]? = some (.cells #[.int .i64 R.2.err, .slice ra R.2.evs.length rc] 51 (0, 0)) := heap_set_cell (heap_set_cell B3.out _) _
 have f6 : Fr0 (fun k => k = w.heap.size + 1) w4 ((w4.setCell ⟨w.heap.size + 1, 0, none⟩ (.int .i64 R.2.err)).setCell ⟨w.heap.size + 1, 1, none⟩ (.slice ra R.2.evs.length rc)) := ((Fr0.refl (fun k => k = w.heap.size + 1) w4).setCell (fun _ => rfl) _).setCell (fun _ => rfl) _
 generalize (w4.setCell ⟨w.heap.size + 1, 0, none⟩ (.int .i64 R.2.err)).setCell ⟨w.heap.size + 1, 1, none⟩ (.slice ra R.2.evs.length rc) = VV at e6 f6 ⊢
 have y0 := cells_in e6 0
 have y1 := cells_in e6 1
 simp at y0 y1
 have hs3 : w.heap.size + 2 ≤ w3.heap.size := by have := Z2.out; have := HS.out; omega
 have hne : ∀ k, ft k → ¬ (k = w.heap.size + 1) := fun k hk e => by have := HRB.out k hk; omega
 have hfr9 : Fr0 ft w VV := ((F2.out.mono (S' := ft) (fun _ _ h => h.elim)).trans HF4.out).trans' f6 (fun k hk e => by have e : k = w.heap.size + 1 := e; omega)
 have hrow9 : VV.ownsRow w.heap.size 47 5 (.slice ra R.2.evs.length rc) R.2.evs.length (flatEv R.2.evs) := ownsRow_k_mono (ownsRow_fr0 HR.out f6 (fun g hg e => by have := (HR.out.lt g hg).1; have e : g = w.heap.size + 1 := e; omega)) (by omega)
 exact bodyPost_ret (v := .agg #[.int .i64 R.2.err, .slice ra R.2.evs.length rc]) (by simp [results, Try.results74, go_sem, y0, y1]) rfl ⟨_, ft, rfl, hrow9, HL.out.fr0 f6 hne, fun k hk => .inl hk, (fun g hg hk => by have := (HR.out.lt g hg).1; have := HRB.out g hk; omega), hfr9⟩
set_option maxRecDepth 100000 in
set_option maxHeartbeats 2000000 in
theorem do_list4 {w : World} {lb n : Nat} {E : List Ev} {ft : Nat → Prop} (h : LIs w lb n E ft) (x : Ev) (t : Int) :
  Calls Try.prog 74 #[.iface 88 (.pointer (some ⟨lb, 0, none⟩)), actCV ⟨4, x, t⟩] w (DoT w ft (doC n E ⟨4, x, t⟩).2 (fun ft' w' => LIs w' lb n (doC n E ⟨4, x, t⟩).1 ft')) := by
 have H := Lib.hid h
 clear h
 have hdo : doC n E ⟨4, x, t⟩ = cancelC x.name E := by unfold doC; simp
 rw [hdo]
 clear hdo
 unfold actCV
 obtain ⟨V1, hV1⟩ : ∃ V, w.alloc (.cells #[.int .u8 4, .int .i64 x.key.time, .int .i64 x.key.source, .int .i64 x.key.seq, .int .i64 x.to, .int .i64 x.value, .int .i64 t] 49) = V := ⟨_, rfl⟩
 have z1 : V1.heap.size = w.heap.size + 1 := by rw [← hV1, World.size_alloc]
 have f1 : Fr0 none' w V1 := by rw [← hV1]; exact (Fr0.refl _ _).alloc _
 have a1 : V1.heap[w.heap.size]? = some (.cells #[.int .u8 4, .int .i64 x.key.time, .int .i64 x.key.source, .int .i64 x.key.seq, .int .i64 x.to, .int .i64 x.value, .int .i64 t] 49 (0, 0)) := by rw [← hV1]; exact World.alloc_heap_new _ _
 obtain ⟨V2, hV2⟩ : ∃ V, V1.alloc (.cells #[.int .i64 0, .slice none 0 0] 51) = V := ⟨_, rfl⟩
 have f2 : Fr0 none' V1 V2 := by rw [← hV2]; exact (Fr0.refl _ _).alloc _
 have b2 : V2.heap[w.heap.size + 1]? = some (.cells #[.int .i64 0, .slice none 0 0] 51 (0, 0)) := by rw [← hV2, ← z1]; exact World.alloc_heap_new _ _
 have a2 := (f2.block w.heap.size (by omega) id).trans a1
 have Z2 := Lib.hid (show V2.heap.size = w.heap.size + 2 by rw [← hV2, World.size_alloc, z1])
 have F2 := Lib.hid (f1.trans f2)
 have B2 := Lib.hid b2
 have A2 := Lib.hid a2
 have H2 := Lib.hid (H.out.later F2.out)
 have HRB := Lib.hid (show ∀ k, ft k → k < w.heap.size from H.out.lt)
 clear f1 a1 f2 b2 a2 z1
 have HP := Lib.hid (H2.out.cancel x.name)
 have ht := (cancelC_one x.name E)
 obtain ⟨R, hR⟩ : ∃ R, cancelC x.name E = R := ⟨_, rfl⟩
 rw [hR] at HP ht ⊢
 clear hR
 have HO := Lib.hid (fun W => one_told ht W)
 clear ht
 have HPP := HP
 unfold evV at HP HO
 unfold Ev.name at HP
 subst hV2
 subst hV1
 go_enter Try.func74, Try.ntmps74
 go_wp2_with fail
 refine HP.out.mono ?_
 rintro e w3 ⟨rfl, hl, hf⟩
 have HL := Lib.hid hl
 have HF := Lib.hid hf
 clear hl hf
 go_wp2_with fail
 refine (HO.out w3).mono ?_
 rintro e w4 ⟨v, rfl, hrow, hf4⟩
 have HF4 := Lib.hid (HF.out.trans' hf4 (fun _ _ h => h.elim))
 have b3 := (HF4.out.block (w.heap.size + 1) (Array.getElem?_eq_some_iff.1 B2.out).1 (fun hk => by have := HRB.out _ hk; omega)).trans B2.out
 have t0 := thaw_in b3 0
 have t1 := thaw_in b3 1
 have u0 := cells_in b3 0
 have u1 := cells_in b3 1
 simp at u0 u1
 have B3 := Lib.hid b3
 clear b3
 have HR := Lib.hid hrow
 have HL := Lib.hid (HL.out.later hf4)
 have HS := Lib.hid HF.out.size
 obtain ⟨ra, rc, hv, _, _⟩ := EsIn.of_own hrow
 clear hrow hf4
 subst hv
 go_wp2_with fail
 have e6 : ((w4.setCell ⟨w.heap.size + 1, 0, none⟩ (.int .i64 R.2.err)).setCell ⟨w.heap.size + 1, 1, none⟩ (.slice ra R.2.evs.length rc)).heap[w.heap.size + 1]? = some (.cells #[.int .i64 R.2.err, .slice ra R.2.evs.length rc] 51 (0, 0)) := heap_set_cell (heap_set_cell B3.out _) _
 have f6 : Fr0 (fun k => k = w.heap.size + 1) w4 ((w4.setCell ⟨w.heap.size + 1, 0, none⟩ (.int .i64 R.2.err)).setCell ⟨w.heap.size + 1, 1, none⟩ (.slice ra R.2.evs.length rc)) := ((Fr0.refl (fun k => k = w.heap.size + 1) w4).setCell (fun _ => rfl) _).setCell (fun _ => rfl) _
 generalize (w4.setCell ⟨w.heap.size + 1, 0, none⟩ (.int .i64 R.2.err)).setCell ⟨w.heap.size + 1, 1, none⟩ (.slice ra R.2.evs.length rc) = VV at e6 f6 ⊢
 have y0 := cells_in e6 0
 have y1 := cells_in e6 1
 simp at y0 y1
 have hs3 : w.heap.size + 2 ≤ w3.heap.size := by have := Z2.out; have := HS.out; omega
 have hne : ∀ k, ft k → ¬ (k = w.heap.size + 1) := fun k hk e => by have := HRB.out k hk; omega
 have hfr9 : Fr0 ft w VV := ((F2.out.mono (S' := ft) (fun _ _ h => h.elim)).trans HF4.out).trans' f6 (fun k hk e => by have e : k = w.heap.size + 1 := e; omega)
 have hrow9 : VV.ownsRow w.heap.size 47 5 (.slice ra R.2.evs.length rc) R.2.evs.length (flatEv R.2.evs) := ownsRow_k_mono (ownsRow_fr0 HR.out f6 (fun g hg e => by have := (HR.out.lt g hg).1; have e : g = w.heap.size + 1 := e; omega)) (by omega)
 exact bodyPost_ret (v := .agg #[.int .i64 R.2.err, .slice ra R.2.evs.length rc]) (by simp [results, Try.results74, go_sem, y0, y1]) rfl ⟨_, ft, rfl, hrow9, HL.out.fr0 f6 hne, fun k hk => .inl hk, (fun g hg hk => by have := (HR.out.lt g hg).1; have := HRB.out g hk; omega), hfr9⟩
set_option maxRecDepth 100000 in
set_option maxHeartbeats 2000000 in
theorem do_list3 {w : World} {lb n : Nat} {E : List Ev} {ft : Nat → Prop} (h : LIs w lb n E ft) (x : Ev) (t : Int) :
  Calls Try.prog 74 #[.iface 88 (.pointer (some ⟨lb, 0, none⟩)), actCV ⟨3, x, t⟩] w (DoT w ft (doC n E ⟨3, x, t⟩).2 (fun ft' w' => LIs w' lb n (doC n E ⟨3, x, t⟩).1 ft')) := by
 have H := Lib.hid h
 clear h
 have hdo : doC n E ⟨3, x, t⟩ = (aftE t E, ⟨0, befE t E⟩) := by unfold doC; simp
 rw [hdo]
 clear hdo
 unfold actCV
 obtain ⟨V1, hV1⟩ : ∃ V, w.alloc (.cells #[.int .u8 3, .int .i64 x.key.time, .int .i64 x.key.source, .int .i64 x.key.seq, .int .i64 x.to, .int .i64 x.value, .int .i64 t] 49) = V := ⟨_, rfl⟩
 have z1 : V1.heap.size = w.heap.size + 1 := by rw [← hV1, World.size_alloc]
 have f1 : Fr0 none' w V1 := by rw [← hV1]; exact (Fr0.refl _ _).alloc _
 have a1 : V1.heap[w.heap.size]? = some (.cells #[.int .u8 3, .int .i64 x.key.time, .int .i64 x.key.source, .int .i64 x.key.seq, .int .i64 x.to, .int .i64 x.value, .int .i64 t] 49 (0, 0)) := by rw [← hV1]; exact World.alloc_heap_new _ _
 obtain ⟨V2, hV2⟩ : ∃ V, V1.alloc (.cells #[.int .i64 0, .slice none 0 0] 51) = V := ⟨_, rfl⟩
 have f2 : Fr0 none' V1 V2 := by rw [← hV2]; exact (Fr0.refl _ _).alloc _
 have b2 : V2.heap[w.heap.size + 1]? = some (.cells #[.int .i64 0, .slice none 0 0] 51 (0, 0)) := by rw [← hV2, ← z1]; exact World.alloc_heap_new _ _
 have a2 := (f2.block w.heap.size (by omega) id).trans a1
 have Z2 := Lib.hid (show V2.heap.size = w.heap.size + 2 by rw [← hV2, World.size_alloc, z1])
 have F2 := Lib.hid (f1.trans f2)
 have B2 := Lib.hid b2
 have A2 := Lib.hid a2
 have H2 := Lib.hid (H.out.later F2.out)
 have HRB := Lib.hid (show ∀ k, ft k → k < w.heap.size from H.out.lt)
 clear f1 a1 f2 b2 a2 z1
 have HP := Lib.hid (H2.out.takeBefore t)
 subst hV2
 subst hV1
 go_enter Try.func74, Try.ntmps74
 go_wp2_with fail
 refine HP.out.mono ?_
 rintro e w3 ⟨v, ft', rfl, hrow, hl, hft, hd, hf⟩
 have b3 := (hf.block (w.heap.size + 1) (Array.getElem?_eq_some_iff.1 B2.out).1 (fun hk => by have := HRB.out _ hk; omega)).trans B2.out
 have t0 := thaw_in b3 0
 have t1 := thaw_in b3 1
 have u0 := cells_in b3 0
 have u1 := cells_in b3 1
 simp at u0 u1
 have B3 := Lib.hid b3
 clear b3
 have HL := Lib.hid hl
 have HF := Lib.hid hf
 have HT := Lib.hid hft
 have HR := Lib.hid hrow
 have HD := Lib.hid hd
 obtain ⟨ra, rc, hv, _, _⟩ := EsIn.of_own hrow
 obtain ⟨m, hm⟩ : ∃ m, (befE t E).length = m := ⟨_, rfl⟩
 have Hm := Lib.hid hm
 rw [hm] at hv
 clear hrow hl hf hft hd hm
 subst hv
 go_wp2_with fail
 have e6 : ((w3.setCell ⟨w.heap.size + 1, 0, none⟩ (.int .i64 0)).setCell ⟨w.heap.size + 1, 1, none⟩ (.slice ra m rc)).heap[w.heap.size + 1]? = some (.cells #[.int .i64 0, .slice ra m rc] 51 (0, 0)) := heap_set_cell (heap_set_cell B3.out _) _
 have f6 : Fr0 (fun k => k = w.heap.size + 1) w3 ((w3.setCell ⟨w.heap.size + 1, 0, none⟩ (.int .i64 0)).setCell ⟨w.heap.size + 1, 1, none⟩ (.slice ra m rc)) := ((Fr0.refl (fun k => k = w.heap.size + 1) w3).setCell (fun _ => rfl) _).setCell (fun _ => rfl) _
 generalize (w3.setCell ⟨w.heap.size + 1, 0, none⟩ (.int .i64 0)).setCell ⟨w.heap.size + 1, 1, none⟩ (.slice ra m rc) = VV at e6 f6 ⊢
 have y0 := cells_in e6 0
 have y1 := cells_in e6 1
 simp at y0 y1
 have hne : ∀ k, ft' k → ¬ (k = w.heap.size + 1) := fun k hk e => by
  rcases HT.out k hk with h | h
  ·have := HRB.out k h; omega
  ·have := Z2.out; omega
 have hft9 : ∀ k, ft' k → ft k ∨ w.heap.size ≤ k := fun k hk => (HT.out k hk).imp id (fun h => by have := Z2.out; omega)
 have hfr9 : Fr0 ft w VV := ((F2.out.mono (S' := ft) (fun _ _ h => h.elim)).trans HF.out).trans' f6 (fun k hk e => by have e : k = w.heap.size + 1 := e; omega)
 have hrow9 : VV.ownsRow w.heap.size 47 5 (.slice ra m rc) (befE t E).length (flatEv (befE t E)) := ownsRow_k_mono (ownsRow_fr0 HR.out f6 (fun g hg e => by have := (HR.out.lt g hg).1; have := Z2.out; have e : g = w.heap.size + 1 := e; omega)) (by have := Z2.out; omega)
 exact bodyPost_ret (v := .agg #[.int .i64 0, .slice ra m rc]) (by simp [results, Try.results74, go_sem, y0, y1]) rfl ⟨_, ft', rfl, hrow9, HL.out.fr0 f6 hne, hft9, HD.out, hfr9⟩
set_option maxRecDepth 100000 in
set_option maxHeartbeats 2000000 in
theorem do_list5 {w : World} {lb n : Nat} {E : List Ev} {ft : Nat → Prop} (h : LIs w lb n E ft) (x : Ev) (t : Int) :
  Calls Try.prog 74 #[.iface 88 (.pointer (some ⟨lb, 0, none⟩)), actCV ⟨5, x, t⟩] w (DoT w ft (doC n E ⟨5, x, t⟩).2 (fun ft' w' => LIs w' lb n (doC n E ⟨5, x, t⟩).1 ft')) := by
 have H := Lib.hid h
 clear h
 have hdo : doC n E ⟨5, x, t⟩ = ([], ⟨0, E⟩) := by unfold doC; simp
 rw [hdo]
 clear hdo
 unfold actCV
 obtain ⟨V1, hV1⟩ : ∃ V, w.alloc (.cells #[.int .u8 5, .int .i64 x.key.time, .int .i64 x.key.source, .int .i64 x.key.seq, .int .i64 x.to, .int .i64 x.value, .int .i64 t] 49) = V := ⟨_, rfl⟩
 have z1 : V1.heap.size = w.heap.size + 1 := by rw [← hV1, World.size_alloc]
 have f1 : Fr0 none' w V1 := by rw [← hV1]; exact (Fr0.refl _ _).alloc _
 have a1 : V1.heap[w.heap.size]? = some (.cells #[.int .u8 5, .int .i64 x.key.time, .int .i64 x.key.source, .int .i64 x.key.seq, .int .i64 x.to, .int .i64 x.value, .int .i64 t] 49 (0, 0)) := by rw [← hV1]; exact World.alloc_heap_new _ _
 obtain ⟨V2, hV2⟩ : ∃ V, V1.alloc (.cells #[.int .i64 0, .slice none 0 0] 51) = V := ⟨_, rfl⟩
 have f2 : Fr0 none' V1 V2 := by rw [← hV2]; exact (Fr0.refl _ _).alloc _
 have b2 : V2.heap[w.heap.size + 1]? = some (.cells #[.int .i64 0, .slice none 0 0] 51 (0, 0)) := by rw [← hV2, ← z1]; exact World.alloc_heap_new _ _
 have a2 := (f2.block w.heap.size (by omega) id).trans a1
 have Z2 := Lib.hid (show V2.heap.size = w.heap.size + 2 by rw [← hV2, World.size_alloc, z1])
 have F2 := Lib.hid (f1.trans f2)
 have B2 := Lib.hid b2
 have A2 := Lib.hid a2
 have H2 := Lib.hid (H.out.later F2.out)
 have HRB := Lib.hid (show ∀ k, ft k → k < w.heap.size from H.out.lt)
 clear f1 a1 f2 b2 a2 z1
 have HP := Lib.hid (H2.out.all)
 subst hV2
 subst hV1
 go_enter Try.func74, Try.ntmps74
 go_wp2_with fail
 refine HP.out.mono ?_
 rintro e w3 ⟨v, rfl, hrow, hf⟩
 have HL := Lib.hid (H2.out.later hf)
 have HF := Lib.hid hf
 have HR := Lib.hid hrow
 clear hrow hf
 go_wp2_with fail
 refine (HL.out.clear).mono ?_
 rintro e w4 ⟨rfl, hl, hf4⟩
 have HF4 := Lib.hid ((HF.out.mono (S' := ft) (fun _ _ h => h.elim)).trans hf4)
 have b3 := (HF4.out.block (w.heap.size + 1) (Array.getElem?_eq_some_iff.1 B2.out).1 (fun hk => by have := HRB.out _ hk; omega)).trans B2.out
 have t0 := thaw_in b3 0
 have t1 := thaw_in b3 1
 have u0 := cells_in b3 0
 have u1 := cells_in b3 1
 simp at u0 u1
 have B3 := Lib.hid b3
 clear b3
 have hng : ∀ g, v.ownBlock = some g → ¬ ft g := fun g hg hk => by have := (HR.out.lt g hg).1; have := HRB.out g hk; have := Z2.out; omega
 have HR := Lib.hid (ownsRow_fr0 HR.out hf4 hng)
 have HNG := Lib.hid hng
 have HL := Lib.hid hl
 obtain ⟨ra, rc, hv, _, _⟩ := EsIn.of_own HR.out
 obtain ⟨m, hm⟩ : ∃ m, E.length = m := ⟨_, rfl⟩
 rw [hm] at hv ⊢
 rw [hm] at HR
 clear hl hf4 hng
 subst hv
 go_wp2_with fail
 have e6 : ((w4.setCell ⟨w.heap.size + 1, 0, none⟩ (.int .i64 0)).setCell ⟨w.heap.size + 1, 1, none⟩ (.slice ra m rc)).heap[w.heap.size + 1]? = some (.cells #[.int .i64 0, .slice ra m rc] 51 (0, 0)) := heap_set_cell (heap_set_cell B3.out _) _
 have f6 : Fr0 (fun k => k = w.heap.size + 1) w4 ((w4.setCell ⟨w.heap.size + 1, 0, none⟩ (.int .i64 0)).setCell ⟨w.heap.size + 1, 1, none⟩ (.slice ra m rc)) := ((Fr0.refl (fun k => k = w.heap.size + 1) w4).setCell (fun _ => rfl) _).setCell (fun _ => rfl) _
 generalize (w4.setCell ⟨w.heap.size + 1, 0, none⟩ (.int .i64 0)).setCell ⟨w.heap.size + 1, 1, none⟩ (.slice ra m rc) = VV at e6 f6 ⊢
 have y0 := cells_in e6 0
 have y1 := cells_in e6 1
 simp at y0 y1
 have hne : ∀ k, ft k → ¬ (k = w.heap.size + 1) := fun k hk e => by have := HRB.out k hk; omega
 have hfr9 : Fr0 ft w VV := ((F2.out.mono (S' := ft) (fun _ _ h => h.elim)).trans HF4.out).trans' f6 (fun k hk e => by have e : k = w.heap.size + 1 := e; omega)
 have hrow9 : VV.ownsRow w.heap.size 47 5 (.slice ra m rc) E.length (flatEv E) := by
  rw [hm]
  exact ownsRow_k_mono (ownsRow_fr0 HR.out f6 (fun g hg e => by have := (HR.out.lt g hg).1; have := Z2.out; have e : g = w.heap.size + 1 := e; omega)) (by have := Z2.out; omega)
 exact bodyPost_ret (v := .agg #[.int .i64 0, .slice ra m rc]) (by simp [results, Try.results74, go_sem, y0, y1]) rfl ⟨_, ft, rfl, hrow9, HL.out.fr0 f6 hne, fun k hk => .inl hk, HNG.out, hfr9⟩
theorem do_list {w : World} {lb n : Nat} {E : List Ev} {ft : Nat → Prop} (h : LIs w lb n E ft) (a : Ca) (hk : 1 ≤ a.kind ∧ a.kind ≤ 5) :
  Calls Try.prog 74 #[.iface 88 (.pointer (some ⟨lb, 0, none⟩)), actCV a] w (DoT w ft (doC n E a).2 (fun ft' w' => LIs w' lb n (doC n E a).1 ft')) := by
 obtain ⟨kd, x, t⟩ := a
 simp only at hk
 have h5 : kd = 1 ∨ kd = 2 ∨ kd = 3 ∨ kd = 4 ∨ kd = 5 := by omega
 rcases h5 with rfl | rfl | rfl | rfl | rfl
 ·exact do_list1 h x t
 ·exact do_list2 h x t
 ·exact do_list3 h x t
 ·exact do_list4 h x t
 ·exact do_list5 h x t
end Go.Proofs.Ytmbjfmlicffclaa

/-
  Ranges over functions whose values are known only when they come: an iterator hands on blocks of its own with each value, and tells at its end what it has become.
-/
namespace Go.Proofs.Ytmbjfmlicffclaa
open Go.RowKit

/-- Like IterX0. 'R i x X Z W': x may come as the value with number i, when the iterator's own blocks are X; those that are not in Z go to the body with it. 'Fin X W': what the iterator has become at its end. -/
def IterR {α : Type} (P : Program) (gf : Nat) (lb : Array Value) (encs : α → Array Value) (n : Nat) (R : Nat → α → (Nat → Prop) → (Nat → Prop) → World → Prop) (Fin : (Nat → Prop) → World → Prop) (own rd : Nat → Prop) (w : World) : Prop :=
 ∀ (l : Nat) (J : Nat → (Nat → Prop) → World → Prop) (Jx : World → Prop) (W : World), Keep rd w W →
  (∀ i X Y W1 W2, J i X W1 → Fr0 (fun k => own k ∨ X k) W1 W2 → (∀ k, Y k → X k ∨ (W1.heap.size ≤ k ∧ k < W2.heap.size)) → J i Y W2) →
  (∀ W1 W2, Jx W1 → Fr0 own W1 W2 → Jx W2) →
  (∀ i x X Z W1, R i x X Z W1 → J i X W1 → YieldAt Fence.wide 0 P l (encs x) W1 fun e W2 =>
   (e = .returned (.bool true) ∧ J (i + 1) Z W2 ∧ Keep (fun k => rd k ∨ Z k) W1 W2) ∨ (e = .returned (.bool false) ∧ Jx W2)) →
  J 0 none' W →
  CallsIn Fence.wide 0 P gf (#[.func (.yield l) #[] #[]] ++ lb) W fun e W' => (∃ v, e = .returned v) ∧ ((∃ X, J n X W' ∧ Fin X W') ∨ Jx W')

variable {P : Program}

/-- THE LAW. 'I i W': i values have come. It must outlive turns of 'own' and of the loop's two blocks. The body must turn none of 'rd' and none of the loop's two blocks. -/
theorem wpIn_iterR {α : Type} {g : Operand} {ps : Array Tmp} {assign body : Code} {Q : Exit → Act → World → Prop} {a : Act} {w : World}
  {gf : Nat} {lb : Array Value} (hg : a.eval g = .func (.func gf) #[] lb) (eg : ∀ args w, (callFunc gf args).run P w = .ok (.enter gf args) w)
  {encs : α → Array Value} {n : Nat} {R : Nat → α → (Nat → Prop) → (Nat → Prop) → World → Prop} {Fin : (Nat → Prop) → World → Prop} {own rd : Nat → Prop} {w0 : World} (hseq : IterR P gf lb encs n R Fin own rd w0)
  (hRZ : ∀ i x X Z W, R i x X Z W → ∀ k, Z k → X k) (hRf : ∀ i x X Z W1 W2, R i x X Z W1 → (∀ k, X k → w.heap.size + 1 < k) → Fr0 (fun k => k = w.heap.size + 1) W1 W2 → R i x X Z W2)
  (hFin : ∀ X W1 W2, Fin X W1 → (∀ k, X k → w.heap.size + 1 < k) → Fr0 (fun k => k = w.heap.size ∨ k = w.heap.size + 1) W1 W2 → Fin X W2) (hb0 : Keep rd w0 w) (hps : ∀ x, (encs x).size = ps.size)
  (hown : ∀ k, own k → k < w.heap.size) (hrd : ∀ k, rd k → k < w.heap.size)
  (I : Nat → (Nat → Prop) → World → Prop) (Ix : Code → World → Prop)
  (hI : ∀ i X Y W1 W2, I i X W1 → (∀ k, X k → w.heap.size + 1 < k ∧ k < W1.heap.size) → Fr0 (fun k => own k ∨ X k ∨ k = w.heap.size ∨ k = w.heap.size + 1) W1 W2 → (∀ k, Y k → X k ∨ (W1.heap.size ≤ k ∧ k < W2.heap.size)) → I i Y W2)
  (hIx : ∀ c W1 W2, Ix c W1 → Fr0 (fun k => own k ∨ k = w.heap.size ∨ k = w.heap.size + 1) W1 W2 → Ix c W2) (h0 : I 0 none' w) (a₁ : α → World → Act → Prop)
  (hassign : ∀ (l : Nat) (x : α) (W : World) (K : Act → World → Prop), w.heap.size + 1 < W.heap.size → (∀ a' W', a₁ x W' a' → Fr0 none' W W' → K a' W') →
   assign.wpIn (Fence.wide.inRound l) 0 P (Exit.then K (fun _ _ _ => False)) { tmps := (ps.zip (encs x)).foldl (fun t (p, v) => t.setIfInBounds p v) a.tmps, defers := [] } W)
  (ha₁ : ∀ x W1 W2 a', a₁ x W1 a' → Fr0 (fun k => k = w.heap.size + 1) W1 W2 → a₁ x W2 a')
  (hbody : ∀ (l i : Nat) (x : α) (X Z : Nat → Prop) (W : World) (a' : Act) (r : Loop), R i x X Z W → I i X W → (∀ k, X k → w.heap.size + 1 < k ∧ k < W.heap.size) → a₁ x W a' → W.heap[w.heap.size]? = some (.deferred (some [])) → W.heap[w.heap.size + 1]? = some (.loop r) →
   body.wpIn (Fence.wide.inRound l) 0 P (iterPost0 (fun k => rd k ∨ Z k ∨ k = w.heap.size ∨ k = w.heap.size + 1) (fun i => I i Z) Ix (i + 1) W) a' W)
  (hdone : ∀ (D : Nat) (X : Nat → Prop) (W : World), D = w.heap.size → I n X W → (∀ k, X k → w.heap.size + 1 < k ∧ k < W.heap.size) → Fin X W → W.heap[D]? = some (.deferred (some [])) → Q .normal { a with defers := { target := .collected D, args := #[] } :: a.defers } W)
  (hstop : ∀ (D : Nat) (c : Code) (W : World), D = w.heap.size → Ix c W → W.heap[D]? = some (.deferred (some [])) → c.wpIn Fence.wide 0 P Q { a with defers := { target := .collected D, args := #[] } :: a.defers } W) :
  (Code.rangeFunc g ps assign body).wpIn Fence.wide 0 P Q a w := by
 refine wpIn_rangeFunc ?_
 intro fn hfn
 obtain ⟨rec, hrec⟩ : ∃ rec : LoopState → Option Code → Loop, rec = fun st pe => { state := st, pending := pe, fn, tmps := a.tmps, params := ps, assign, body, defers := w.heap.size } := ⟨_, rfl⟩
 obtain ⟨B, hB⟩ : ∃ B, w.heap.size = B := ⟨_, rfl⟩
 obtain ⟨W1, hW1⟩ : ∃ W1, (w.alloc (.deferred (some []))).alloc (.loop (rec .ready none)) = W1 := ⟨_, rfl⟩
 have hf1 : Fr0 none' w W1 := by rw [← hW1]; exact ((Fr0.refl _ _).alloc _).alloc _
 have hL1 : W1.heap[B + 1]? = some (.loop (rec .ready none)) := by
  rw [← hW1, ← hB]; have := World.alloc_heap_new (w.alloc (.deferred (some []))) (.loop (rec .ready none)); rwa [World.size_alloc] at this
 have hK1 : W1.heap[B]? = some (.deferred (some [])) := by
  rw [← hW1, ← hB]; exact (Below.heap_alloc _ _ _ (by simp)).trans (World.alloc_heap_new w _)
 rw [hB] at hI hIx hbody hdone hstop hassign ha₁ hown hrd hRf hFin
 have hI1 : I 0 none' W1 := hI _ _ none' _ _ h0 (fun k h => h.elim) (hf1.mono (fun k _ h => h.elim)) (fun k h => h.elim)
 refine ⟨B + 1, [{ target := .collected B, args := #[] }], W1, { target := .fn (.func gf) lb, args := #[.func (.yield (B + 1)) #[] #[]] }, W1, gf,
  #[.func (.yield (B + 1)) #[] #[]] ++ lb, W1, ?_, ?_, fun _ _ => trivial, ?_, fun h => by simp [Fence.wide] at h, ?_⟩
 ·have := run_enterLoop_outer (P := P) (w := w) fn a.tmps ps assign body
  rw [← hW1, hrec]
  simp only [hB] at this ⊢
  exact this
 ·simp only [resolve, hg]
  simp [go_sem]
 ·simp [invoke, go_sem, eg]
 ·refine CallsIn.mono ((hseq (B + 1)
   (fun i X W => I i X W ∧ (∀ k, X k → B + 1 < k ∧ k < W.heap.size) ∧ W.heap[B + 1]? = some (.loop (rec .ready none)) ∧ W.heap[B]? = some (.deferred (some [])))
   (fun W => ∃ c, Ix c W ∧ W.heap[B + 1]? = some (.loop (rec .done (some c))) ∧ W.heap[B]? = some (.deferred (some [])))
   W1 (hb0.trans (hf1.keep (fun k hk => ⟨by rw [hB]; exact hrd k hk, id⟩)))
   ?_ ?_ ?_ ⟨hI1, fun k h => h.elim, hL1, hK1⟩)) ?_
  ·rintro i X Y A C ⟨hi, hX, hl, hk⟩ hf hY
   have l1 := (Array.getElem?_eq_some_iff.1 hl).1
   have l2 := hf.size
   refine ⟨hI i X Y A C hi hX (hf.mono (fun k _ h => h.elim .inl (fun h => .inr (.inl h)))) hY, fun k hk => ?_, (hf.block _ l1 (fun h => ?_)).trans hl, (hf.block _ (by omega) (fun h => ?_)).trans hk⟩
   ·rcases hY k hk with h | h
    ·have := hX k h; omega
    ·omega
   ·rcases h with h | h
    ·have := hown _ h; omega
    ·have := hX _ h; omega
   ·rcases h with h | h
    ·have := hown _ h; omega
    ·have := hX _ h; omega
  ·rintro A C ⟨c, hi, hl, hk⟩ hf
   have l1 := (Array.getElem?_eq_some_iff.1 hl).1
   exact ⟨c, hIx c A C hi (hf.mono (fun k _ h => .inl h)), (hf.block _ l1 (fun h => by have := hown _ h; omega)).trans hl, (hf.block _ (by omega) (fun h => by have := hown _ h; omega)).trans hk⟩
  ·rintro i x X Z W hx ⟨hi, hX, hl, hk⟩
   have hZ := hRZ _ _ _ _ _ hx
   have hlt : B + 1 < W.heap.size := (Array.getElem?_eq_some_iff.1 hl).1
   have hy := run_yield (P := P) (args := encs x) hl (by rw [hrec]; exact hps x)
   rw [hrec] at hy
   refine ⟨fn, _, assign, body, hy, roundIn_of_wpIn (n := 0) hfn (hassign _ x W _ hlt ?_)⟩
   intro a' W' ha' hf'
   have hl' : W'.heap[B + 1]? = some (.loop (rec .ready none)) := (hf'.block _ hlt id).trans hl
   have hk' : W'.heap[B]? = some (.deferred (some [])) := (hf'.block _ (by omega) id).trans hk
   have hlt' : B + 1 < W'.heap.size := (Array.getElem?_eq_some_iff.1 hl').1
   refine ⟨_, run_beginRound hl' (by rw [hrec]), ?_⟩
   obtain ⟨W2, hW2⟩ : ∃ W2, W'.putObj (B + 1) (.loop { rec .ready none with state := .busy }) = W2 := ⟨_, rfl⟩
   have hf2 : Fr0 (fun k => k = B + 1) W' W2 := by rw [← hW2]; exact Fr0.putNew _ _ rfl
   have hl2 : W2.heap[B + 1]? = some (.loop { rec .ready none with state := .busy }) := by rw [← hW2]; exact World.putObj_heap_same hlt'
   have hk2 : W2.heap[B]? = some (.deferred (some [])) := (hf2.block _ (by omega) (by omega)).trans hk'
   rw [hW2]
   have hX' : ∀ k, X k → B + 1 < k ∧ k < W'.heap.size := fun k hk => ⟨(hX k hk).1, Nat.lt_of_lt_of_le (hX k hk).2 hf'.size⟩
   have hX2 : ∀ k, X k → B + 1 < k ∧ k < W2.heap.size := fun k hk => ⟨(hX k hk).1, Nat.lt_of_lt_of_le (hX' k hk).2 hf2.size⟩
   have hi2 : I i X W2 := hI _ _ _ _ _ (hI _ _ _ _ _ hi hX (hf'.mono (fun k _ h => h.elim)) (fun k h => .inl h)) hX' (hf2.mono (fun k _ h => .inr (.inr (.inr h)))) (fun k h => .inl h)
   have hx2 : R i x X Z W2 := hRf _ _ _ _ _ _ (hRf _ _ _ _ _ _ hx (fun k hk => (hX k hk).1) (hf'.mono (fun k _ h => h.elim))) (fun k hk => (hX k hk).1) hf2
   have hrx : ∀ k, (rd k ∨ Z k) → k < W.heap.size ∧ k ≠ B ∧ k ≠ B + 1 := fun k h => by
    rcases h with h | h
    ·have := hrd k h; omega
    ·have := hX k (hZ k h); omega
   have z1 := hf'.size
   have z2 := hf2.size
   have kW2 : Keep (fun k => rd k ∨ Z k) W W2 := (hf'.keep (fun k hk => ⟨(hrx k hk).1, id⟩)).trans (hf2.keep (fun k hk => ⟨by have := hrx k hk; omega, (hrx k hk).2.2⟩))
   refine wpIn_mono (hbody _ i x X Z W2 a' _ hx2 hi2 hX2 (ha₁ _ _ _ _ ha' hf2) hk2 hl2) ?_
   have fin : ∀ (jump : Option Code) (W3 : World) (S' : Nat → Prop), Fr0 S' W2 W3 → (∀ k, S' k → (rd k ∨ Z k ∨ k = B ∨ k = B + 1) → False) →
     (Instr.endRound (B + 1) jump).run P W3 = .ok (.bool jump.isNone) (W3.putObj (B + 1) (.loop (rec (if jump.isNone then .ready else .done) jump))) ∧
     (W3.putObj (B + 1) (.loop (rec (if jump.isNone then .ready else .done) jump))).heap[B + 1]? = some (.loop (rec (if jump.isNone then .ready else .done) jump)) ∧
     (W3.putObj (B + 1) (.loop (rec (if jump.isNone then .ready else .done) jump))).heap[B]? = some (.deferred (some [])) ∧
     Fr0 (fun k => own k ∨ k = B ∨ k = B + 1) W3 (W3.putObj (B + 1) (.loop (rec (if jump.isNone then .ready else .done) jump))) ∧
     Keep (fun k => rd k ∨ Z k) W (W3.putObj (B + 1) (.loop (rec (if jump.isNone then .ready else .done) jump))) := by
    intro jump W3 S' hf3 hS'
    have l2 := (Array.getElem?_eq_some_iff.1 hl2).1
    have hl3 := (hf3.block _ l2 (fun h => hS' _ h (.inr (.inr (.inr rfl))))).trans hl2
    have hk3 := (hf3.block _ (by omega) (fun h => hS' _ h (.inr (.inr (.inl rfl))))).trans hk2
    have l3 := (Array.getElem?_eq_some_iff.1 hl3).1
    have := run_endRound (P := P) jump hl3
    rw [hrec] at this ⊢
    refine ⟨this, World.putObj_heap_same l3, (World.putObj_heap_other (by omega)).trans hk3, Fr0.putNew _ _ (.inr (.inr rfl)), ?_⟩
    have z3 := hf3.size
    refine (kW2.trans (hf3.keep (fun k hk => ⟨by have := hrx k hk; omega, fun h => hS' _ h (hk.elim .inl (fun h => .inr (.inl h)))⟩))).trans ?_
    exact (Fr0.putNew (S := fun k => k = B + 1) _ _ rfl).keep (fun k hk => ⟨by have := hrx k hk; omega, (hrx k hk).2.2⟩)
   rintro e a3 W3 hp
   cases e with
   | normal =>
    obtain ⟨S', hf3, hS', hi3⟩ := hp
    obtain ⟨hr, hl4, hk4, hf4, hk5⟩ := fin none W3 S' hf3 hS'
    have z3 := hf3.size
    have z4 := hf4.size
    exact ⟨_, _, hr, .inl ⟨rfl, ⟨hI _ _ _ _ _ hi3 (fun k hk => ⟨(hX k (hZ k hk)).1, by have := hX2 k (hZ k hk); omega⟩) (hf4.mono (fun k _ h => h.elim .inl (fun h => .inr (.inr h)))) (fun k h => .inl h), fun k hk => ⟨(hX k (hZ k hk)).1, by have := hX2 k (hZ k hk); omega⟩, hl4, hk4⟩, hk5⟩⟩
   | ret =>
    obtain ⟨S', hf3, hS', hi3⟩ := hp
    obtain ⟨hr, hl4, hk4, hf4, hk5⟩ := fin (some .ret) W3 S' hf3 hS'
    exact ⟨_, _, hr, .inr ⟨rfl, .ret, hIx _ _ _ hi3 hf4, hl4, hk4⟩⟩
   | exit id =>
    obtain ⟨S', hf3, hS', hi3⟩ := hp
    obtain ⟨hr, hl4, hk4, hf4, hk5⟩ := fin (some (.exit id)) W3 S' hf3 hS'
    exact ⟨_, _, hr, .inr ⟨rfl, .exit id, hIx _ _ _ hi3 hf4, hl4, hk4⟩⟩
   | goto t =>
    obtain ⟨S', hf3, hS', hi3⟩ := hp
    obtain ⟨hr, hl4, hk4, hf4, hk5⟩ := fin (some (.goto t)) W3 S' hf3 hS'
    exact ⟨_, _, hr, .inr ⟨rfl, .goto t, hIx _ _ _ hi3 hf4, hl4, hk4⟩⟩
   | panic ch => exact hp.elim
   | outgrown => exact hp.elim
  ·rintro e W2 ⟨⟨v, rfl⟩, (⟨X, ⟨hi, hX, hl, hk⟩, hfin⟩ | ⟨c, hi, hl, hk⟩)⟩
   ·exact ⟨none, _, by have := run_endLoop (P := P) hl (by rw [hrec]; simp); rw [hrec] at this; exact this, hdone _ X _ rfl (hI _ _ _ _ _ hi hX (Fr0.putNew _ _ (.inr (.inr (.inr rfl)))) (fun k h => .inl h)) (fun k hk => ⟨(hX k hk).1, by rw [World.putObj_size]; exact (hX k hk).2⟩) (hFin X _ _ hfin (fun k hk => (hX k hk).1) (Fr0.putNew _ _ (.inr rfl))) ((World.putObj_heap_other (by omega)).trans hk)⟩
   ·exact ⟨some c, _, by have := run_endLoop (P := P) hl (by rw [hrec]; simp); rw [hrec] at this; exact this, hstop _ c _ rfl (hIx c _ _ hi (Fr0.putNew _ _ (.inr (.inr rfl)))) ((World.putObj_heap_other (by omega)).trans hk)⟩
end Go.Proofs.Ytmbjfmlicffclaa

/-
  calendar: told with a list.
-/
namespace Go.Proofs.Ytmbjfmlicffclaa
open Go Go.RowKit
attribute [local go_sem ↓] Go.wp_at_zero Go.wp_at_succ
attribute [local go_sem] Oper.semAt_some wide_fn wide_depth wide_fnR wide_depthR

/-- Acts in memory. -/
def CaAt (w : World) (g o : Nat) (a : Ca) : Prop := w.cell? ⟨g, o, none⟩ = some (.int .u8 a.kind) ∧ w.cell? ⟨g, o + 1, none⟩ = some (.int .i64 a.x.key.time) ∧ w.cell? ⟨g, o + 2, none⟩ = some (.int .i64 a.x.key.source) ∧ w.cell? ⟨g, o + 3, none⟩ = some (.int .i64 a.x.key.seq) ∧ w.cell? ⟨g, o + 4, none⟩ = some (.int .i64 a.x.to) ∧ w.cell? ⟨g, o + 5, none⟩ = some (.int .i64 a.x.value) ∧ w.cell? ⟨g, o + 6, none⟩ = some (.int .i64 a.time)
def CasIn (w : World) (a : Option Addr) (L : List Ca) : Prop := ∀ i x, L[i]? = some x → ∃ g o, a = some ⟨g, o, none⟩ ∧ CaAt w g (o + i * 7) x
theorem CaAt.fr0 {S : Nat → Prop} {w w' : World} {g o : Nat} {a : Ca} (h : CaAt w g o a) (hf : Fr0 S w w') (hS : ¬ S g) : CaAt w' g o a := by
 obtain ⟨h0, h1, h2, h3, h4, h5, h6⟩ := h
 have hlt := World.block_lt_of_cell? _ _ h0
 have key : ∀ o' v, w.cell? ⟨g, o', none⟩ = some v → w'.cell? ⟨g, o', none⟩ = some v := fun o' v hc => (hf.cell (p := ⟨g, o', none⟩) hlt hS).trans hc
 exact ⟨key _ _ h0, key _ _ h1, key _ _ h2, key _ _ h3, key _ _ h4, key _ _ h5, key _ _ h6⟩
theorem CasIn.fr0 {S : Nat → Prop} {w w' : World} {a : Option Addr} {L : List Ca} (h : CasIn w a L) (hf : Fr0 S w w') (hS : ∀ g o s, a = some ⟨g, o, s⟩ → ¬ S g) : CasIn w' a L := fun i x hx => by
 obtain ⟨g, o, e, hc⟩ := h i x hx
 exact ⟨g, o, e, hc.fr0 hf (hS g o none e)⟩
theorem CasIn.later {w w' : World} {a : Option Addr} {L : List Ca} (h : CasIn w a L) (hf : Fr0 none' w w') : CasIn w' a L := h.fr0 hf (fun _ _ _ _ h => h)
theorem CasIn.kept {w w' : World} {a : Option Addr} {L : List Ca} (h : CasIn w a L) (hk : ∀ g o s, a = some ⟨g, o, s⟩ → w'.heap[g]? = w.heap[g]?) : CasIn w' a L := fun i x hx => by
 obtain ⟨g, o, e, h0, h1, h2, h3, h4, h5, h6⟩ := h i x hx
 have key : ∀ o' v, w.cell? ⟨g, o', none⟩ = some v → w'.cell? ⟨g, o', none⟩ = some v := fun o' v hc => (World.cell?_of_block (w := w) (hk g o none e)).trans hc
 exact ⟨g, o, e, key _ _ h0, key _ _ h1, key _ _ h2, key _ _ h3, key _ _ h4, key _ _ h5, key _ _ h6⟩
theorem CasIn.lt {w : World} {a : Option Addr} {L : List Ca} (h : CasIn w a L) (h0 : L ≠ []) : ∀ g o s, a = some ⟨g, o, s⟩ → g < w.heap.size := by
 intro g o s e
 cases L with
 | nil => exact absurd rfl h0
 | cons y r =>
  obtain ⟨g', o', e', hc, _⟩ := h 0 y rfl
  rw [e] at e'
  injection e' with e'
  injection e' with e1 e2 e3
  subst e1
  exact World.block_lt_of_cell? _ _ hc
/-- A list outlives whatever keeps its blocks. -/
theorem LIs.kept {w W : World} {lb n : Nat} {E : List Ev} {ft : Nat → Prop} (h : LIs w lb n E ft) (hs : w.heap.size ≤ W.heap.size) (hk : ∀ k, ft k → W.heap[k]? = w.heap[k]?) : LIs W lb n E ft := by
 obtain ⟨W0, hW0⟩ : ∃ W0 : World, W0 = { W with os := w.os, tape := w.tape, output := w.output } := ⟨_, rfl⟩
 have hf : Fr0 (fun k => ¬ ft k) w W0 := by
  subst hW0
  exact ⟨rfl, rfl, rfl, hs, fun k _ hn => hk k (Classical.not_not.1 hn)⟩
 have h0 := h.fr0 hf (fun k h1 h2 => h2 h1)
 have hh : W0.heap = W.heap := by rw [hW0]
 obtain ⟨v, h1, h2, h3, h4⟩ := h0.row
 refine ⟨⟨v, hh ▸ h1, ?_, h3, h4⟩, h0.good, h0.small, h0.foot, fun k hk => hh ▸ h0.lt k hk⟩
 refine ⟨h2.1, h2.2.imp id ?_⟩
 rintro ⟨g, cap, cur, e1, e2, e3, e4, e5, e6, e7⟩
 exact ⟨g, cap, cur, e1, e2, hh ▸ e3, e4, e5, e6, e7⟩
/-- What is told, with the slice that holds it. -/
structure Td where
 err : Int
 sa : Option Addr
 sn : Nat
 sc : Nat
 evs : List Ev
def Td.v (y : Td) : Value := .slice y.sa y.sn y.sc
def Td.tl (y : Td) : Tl := ⟨y.err, y.evs⟩
def Td.val (y : Td) : Value := .agg #[.int .i64 y.err, .slice y.sa y.sn y.sc]
def Td.cells (y : Td) : List Value := [.int .i64 y.err, .slice y.sa y.sn y.sc]
/-- y may come as the value with number i. -/
def ToldR (T : List Tl) (i : Nat) (y : Td) (X Z : Nat → Prop) (W : World) : Prop :=
 T[i]? = some y.tl ∧ W.ownsRow 0 47 5 y.v y.evs.length (flatEv y.evs) ∧ (∀ g, y.v.ownBlock = some g → X g ∧ ¬ Z g) ∧ ∀ k, Z k → X k
/-- What the list has become. -/
def ListF (lb n : Nat) (E : List Ev) (own X : Nat → Prop) (W : World) : Prop := ∃ ft, LIs W lb n E ft ∧ ∀ k, ft k → own k ∨ X k
set_option maxRecDepth 100000 in
set_option maxHeartbeats 4000000 in
theorem told_list {w : World} {lb n m cap ab sb : Nat} {E : List Ev} {ft : Nat → Prop} {a : Option Addr} {L : List Ca} (h : LIs w lb n E ft) (hL : CasIn w a L) (hl : L.length = m) (hm : m ≤ 100000) (hk : ∀ a ∈ L, 1 ≤ a.kind ∧ a.kind ≤ 5)
  (hab : Box w ab (.slice a m cap)) (hsb : Box w sb (.iface 88 (.pointer (some ⟨lb, 0, none⟩)))) (hna : L ≠ [] → ∀ g o s, a = some ⟨g, o, s⟩ → ¬ ft g) (hnab : ¬ ft ab) (hnsb : ¬ ft sb) :
  IterR Try.prog 73 #[.pointer (some ⟨ab, 0, none⟩), .pointer (some ⟨sb, 0, none⟩)] (fun y : Td => #[y.val]) m (ToldR (tlC n E L)) (ListF lb n (stC n E L) ft) ft (fun k => k = ab ∨ k = sb ∨ (∃ o s, a = some ⟨k, o, s⟩ ∧ L ≠ []) ∨ ft k) w := by
 intro l J Jx W hK hJ hJx hY h0
 have H := Lib.hid (h.kept hK.1 (fun k hk => hK.2 k (.inr (.inr (.inr hk)))))
 have HL := Lib.hid (show L ≠ [] → CasIn W a L from fun hne => hL.kept (fun g o s e => hK.2 g (.inr (.inr (.inl ⟨o, s, e, hne⟩)))))
 have HA := Lib.hid (hab.of_block (hK.2 ab (.inl rfl)))
 have HS := Lib.hid (hsb.of_block (hK.2 sb (.inr (.inl rfl))))
 have HNA := Lib.hid hna
 have Hnab := Lib.hid hnab
 have Hnsb := Lib.hid hnsb
 have HJ := Lib.hid hJ
 have HY := Lib.hid hY
 have Hl := Lib.hid hl
 have Hk := Lib.hid hk
 have H0 := Lib.hid h0
 have c0 := HA.out.cell
 clear h hL hab hsb hna hnab hnsb hJ hY hK hk hl h0
 refine callsIn_of_wp Try.func73 rfl trivial ?_ rfl
 simp only [Try.ntmps73, List.size_toArray, List.length_cons, List.length_nil, Nat.reduceAdd, Nat.reduceSub, Array.replicate_succ, Array.replicate_zero, List.push_toArray, List.append_toArray, List.nil_append, List.cons_append]
 gi_wp2_with fail
 gi_loopw [5, 8] (fun _ i wr => ∃ (k : Nat) (X fk : Nat → Prop), k ≤ m ∧ i = .int .i64 k ∧ Hid (J k X wr) ∧ Hid (LIs wr lb n (stC n E (L.take k)) fk ∧ ∀ j, fk j → ft j ∨ X j) ∧ Hid (Keep (fun b => b = ab ∨ b = sb ∨ ∃ o s, a = some ⟨b, o, s⟩ ∧ L ≠ []) W wr) ∧ Hid (∀ j, X j → W.heap.size ≤ j)) (fun _ i _ => m - (Go.RowKit.intOf i).toNat)
 case atStart => exact ⟨0, none', ft, Nat.zero_le _, rfl, H0.out, ⟨H.out, fun j hj => .inl hj⟩, Keep.refl _ _, fun j hj => hj.elim⟩
 case round =>
  clear H0
  obtain ⟨k, X, fk, hk, rfl, hj, hS, hKp, hX⟩ := hrel
  by_cases hlt : k < m
  ·have hne : L ≠ [] := fun e => by have := Hl.out; rw [e] at this; simp at this; omega
   obtain ⟨x, hx⟩ : ∃ x, L[k]? = some x := ⟨_, List.getElem?_eq_getElem (by rw [Hl.out]; exact hlt)⟩
   obtain ⟨g2, o, rfl, _⟩ := HL.out hne k x hx
   have hcas : CasIn wr (some ⟨g2, o, none⟩) L := (HL.out hne).kept (fun g o' s e => hKp.out.2 g (.inr (.inr ⟨o', s, e, hne⟩)))
   obtain ⟨g3, o3, e3, hxc⟩ := hcas k x hx
   injection e3 with e3
   injection e3 with e3 e4
   subst e3 e4
   obtain ⟨x0, x1, x2, x3, x4, x5, x6⟩ := hxc
   have k1 : (0 : Int) ≤ (k : Int) := by omega
   have k2 : (k : Int) < (m : Int) := by omega
   have z5 : IntKind.i64.wrap ((k : Int) + 1) = (k : Int) + 1 := IntWalk.i64_in _ (by omega)
   obtain ⟨W2, hW2⟩ : ∃ V, wr.alloc (.cells #[.int .u8 x.kind, .int .i64 x.x.key.time, .int .i64 x.x.key.source, .int .i64 x.x.key.seq, .int .i64 x.x.to, .int .i64 x.x.value, .int .i64 x.time] 49) = V := ⟨_, rfl⟩
   have f2 : Fr0 none' wr W2 := by rw [← hW2]; exact (Fr0.refl _ _).alloc _
   have hS2 := hS.out.1.later f2
   have hj2 : J k X W2 := HJ.out k X X wr W2 hj.out (f2.mono (fun _ _ h => h.elim)) (fun _ h => .inl h)
   have hsb2 : Box W2 sb (.iface 88 (.pointer (some ⟨lb, 0, none⟩))) := (HS.out.of_block (hKp.out.2 sb (.inr (.inl rfl)))).fr0 f2 id
   have cS := hsb2.cell
   have HD := Lib.hid (do_list hS2 x (Hk.out x (List.mem_of_getElem? hx)))
   have Hx := Lib.hid hx
   have HS2 := Lib.hid hS2
   have F2 := Lib.hid f2
   have Hj2 := Lib.hid hj2
   have Hne := Lib.hid hne
   unfold actCV at HD
   clear hcas hx hS2 hj2 hsb2 f2 hne
   subst hW2
   gi_wp2_with fail
   refine (callsIn_wide.2 HD.out).mono ?_
   rintro e W3 ⟨v, ft', rfl, hrow, hl', hft', hnv, hf3⟩
   obtain ⟨va, vc, hv9, _, _⟩ := EsIn.of_own hrow
   obtain ⟨vn, hvn⟩ : ∃ vn, (doC n (stC n E (L.take k)) x).2.evs.length = vn := ⟨_, rfl⟩
   rw [hvn] at hv9
   subst hv9
   clear hvn
   obtain ⟨T, hT⟩ : ∃ T, (doC n (stC n E (L.take k)) x).2 = T := ⟨_, rfl⟩
   rw [hT] at hrow ⊢
   rw [← stC_snoc Hx.out] at hl'
   have htl := tlC_at (n := n) (E := E) Hx.out
   rw [hT] at htl
   obtain ⟨W2, hW2⟩ : ∃ V, wr.alloc (.cells #[.int .u8 x.kind, .int .i64 x.x.key.time, .int .i64 x.x.key.source, .int .i64 x.x.key.seq, .int .i64 x.x.to, .int .i64 x.x.value, .int .i64 x.time] 49) = V := ⟨_, rfl⟩
   rw [hW2] at hrow hft' hf3 HS2 F2 Hj2
   clear hW2 HD
   obtain ⟨Y, hY⟩ : ∃ Y : Nat → Prop, Y = fun j => X j ∨ (W2.heap.size ≤ j ∧ j < W3.heap.size) := ⟨_, rfl⟩
   obtain ⟨Z, hZ⟩ : ∃ Z : Nat → Prop, Z = fun j => Y j ∧ (Value.slice va vn vc).ownBlock ≠ some j := ⟨_, rfl⟩
   have hj3 : J k Y W3 := HJ.out k X Y W2 W3 Hj2.out (hf3.mono (fun j _ h => hS.out.2 j h)) (fun j h => by rw [hY] at h; exact h)
   have hfoot : ∀ j, ft' j → ft j ∨ Z j := fun j hj => by
    have hlt3 := hl'.lt j hj
    have hv := fun e => hnv j e hj
    rcases hft' j hj with h | h
    ·rcases hS.out.2 j h with h | h
     ·exact .inl h
     ·exact .inr (by rw [hZ]; exact ⟨by rw [hY]; exact .inl h, hv⟩)
    ·exact .inr (by rw [hZ]; exact ⟨by rw [hY]; exact .inr ⟨h, hlt3⟩, hv⟩)
   obtain ⟨fn, tmps, assign, body, hyy, hR⟩ := HY.out k ⟨T.err, va, vn, vc, T.evs⟩ Y Z W3 ⟨htl, ownsRow_k_mono hrow (Nat.zero_le _), fun g hg => ⟨by rw [hY]; exact .inr (hrow.lt g hg), fun hz => by rw [hZ] at hz; exact hz.2 hg⟩, fun j hj => by rw [hZ] at hj; exact hj.1⟩ hj3
   unfold Td.val at hyy
   have HR := Lib.hid hR
   have HLI := Lib.hid hl'
   have HFo := Lib.hid hfoot
   have HF3 := Lib.hid hf3
   have hXY : ∀ j, Z j → W.heap.size ≤ j := fun j hj => by
    rw [hZ] at hj
    have hj := hj.1
    rw [hY] at hj
    rcases hj with h | h
    ·exact hX.out j h
    ·have := hKp.out.1
     have := F2.out.size
     omega
   have HXY := Lib.hid hXY
   have hK3 : Keep (fun b => b = ab ∨ b = sb ∨ ∃ o' s, (some ⟨g2, o, none⟩ : Option Addr) = some ⟨b, o', s⟩ ∧ L ≠ []) W W3 := by
    have hno : ∀ b, b < W.heap.size → ¬ ft b → ¬ fk b := fun b hb h1 h2 => (hS.out.2 b h2).elim h1 (fun h => by have := hX.out b h; omega)
    refine hKp.out.trans (((F2.out.mono (S' := fk) (fun _ _ h => h.elim)).trans hf3).keep (fun b hb => ?_))
    have hsz := hKp.out.1
    rcases hb with rfl | rfl | ⟨o', s, e, h⟩
    ·exact ⟨Nat.lt_of_lt_of_le HA.out.lt hsz, hno _ HA.out.lt Hnab.out⟩
    ·exact ⟨Nat.lt_of_lt_of_le HS.out.lt hsz, hno _ HS.out.lt Hnsb.out⟩
    ·have hb := (HL.out h).lt h b o' s e
     exact ⟨Nat.lt_of_lt_of_le hb hsz, hno _ hb (HNA.out h b o' s e)⟩
   have HK3 := Lib.hid hK3
   clear hrow hl' hft' hnv hf3 htl hj3 hfoot hR hXY hK3 hY hZ hT
   gi_wp2_with fail
   refine HR.out.mono ?_
   rintro e W4 (⟨rfl, hJ4, hk4⟩ | ⟨rfl, hJx4⟩)
   ·have hli := HLI.out.kept hk4.1 (fun j hj => hk4.2 j ((HFo.out j hj).elim (fun h => .inl (.inr (.inr (.inr h)))) .inr))
    have hkk : Keep (fun b => b = ab ∨ b = sb ∨ ∃ o' s, (some ⟨g2, o, none⟩ : Option Addr) = some ⟨b, o', s⟩ ∧ L ≠ []) W W4 := HK3.out.trans ⟨hk4.1, fun b hb => hk4.2 b (.inl (hb.imp id (fun h => h.imp id .inl)))⟩
    have HLI := Lib.hid hli
    have HKK := Lib.hid hkk
    have HJ4 := Lib.hid hJ4
    clear hli hkk hk4 hJ4
    gi_wp2
    go_roundw
    case rel => exact ⟨k + 1, Z, ft', by omega, by go_num, HJ4, ⟨HLI.out, HFo.out⟩, HKK, HXY⟩
    case measure => simp [Go.RowKit.intOf]; omega
   ·gi_wp2
    refine bodyPost_ret (results_none rfl _ _ _) rfl ?_
    exact ⟨⟨_, rfl⟩, .inr hJx4⟩
  ·have hkm : k = m := by omega
   subst hkm
   have hfin : ListF lb n (stC n E L) ft X wr := ⟨fk, by rw [← List.take_of_length_le (l := L) (i := k) (by rw [Hl.out]; exact Nat.le_refl _)]; exact hS.out.1, hS.out.2⟩
   have HJF := Lib.hid hj.out
   have HFin := Lib.hid hfin
   clear hj hfin
   gi_wp2
   go_end0
   exact ⟨⟨_, rfl⟩, .inl ⟨X, HJF.out, HFin.out⟩⟩
end Go.Proofs.Ytmbjfmlicffclaa

/-
  calendar: odd, Right.
-/
namespace Go.Proofs.Ytmbjfmlicffclaa
open Go Go.RowKit
attribute [local go_sem ↓] Go.wp_at_zero Go.wp_at_succ
attribute [local go_sem] Oper.semAt_some wide_fn wide_depth wide_fnR wide_depthR

set_option maxRecDepth 100000 in
set_option maxHeartbeats 2000000 in
theorem odd_any {w : World} {a : Option Addr} {m cap : Nat} (L : List Ca) (h : CasIn w a L) (hl : L.length = m) (hm : m ≤ 100000) (hk : ∀ x ∈ L, 0 ≤ x.kind ∧ x.kind < 256) :
  Calls Try.prog 41 #[.slice a m cap] w fun e w' => e = .returned (.int .i64 (oddC L)) ∧ Fr0 none' w w' := by
 have H := Lib.hid h
 have Hl := Lib.hid hl
 have Hk := Lib.hid hk
 obtain ⟨R, hR⟩ : ∃ R, oddC L = R := ⟨_, rfl⟩
 rw [hR]
 have HR := Lib.hid hR
 clear h hl hk hR
 go_enter Try.func41, Try.ntmps41
 go_wp2_with fail
 apply wp_scope_straight
 go_wp2_with fail
 apply wp_label
 go_wp2_with fail
 go_loopw [3, 4, 5, 8] (fun at_ _ _ i wr => ∃ k : Nat, k ≤ m ∧ at_ = .int .i64 (-1) ∧ i = .int .i64 k ∧ Hid (∀ b ∈ L.take k, 1 ≤ b.kind ∧ b.kind ≤ 5) ∧ Hid (Fr0 none' w wr)) (fun _ _ _ i _ => m - (Go.RowKit.intOf i).toNat)
 case atStart => exact ⟨0, Nat.zero_le _, rfl, rfl, by unfold Hid; simp, Fr0.refl _ _⟩
 case round =>
  obtain ⟨k, hk, rfl, rfl, hpre, hfr⟩ := hrel
  by_cases hlt : k < m
  ·obtain ⟨x, hx⟩ : ∃ x, L[k]? = some x := ⟨_, List.getElem?_eq_getElem (by rw [Hl.out]; exact hlt)⟩
   obtain ⟨g, o, rfl, hxc⟩ := (H.out.later hfr.out) k x hx
   obtain ⟨x0, x1, x2, x3, x4, x5, x6⟩ := hxc
   have k1 : (0 : Int) ≤ (k : Int) := by omega
   have k2 : (k : Int) < (m : Int) := by omega
   have Hkx := Lib.hid (Hk.out x (List.mem_of_getElem? hx))
   have Hx := Lib.hid hx
   obtain ⟨kd, y, t⟩ := x
   simp only at x0 x1 x2 x3 x4 x5 x6 Hkx
   have HF := Lib.hid (hfr.out.trans ((Fr0.refl none' wr).alloc (.cells #[.int .u8 kd, .int .i64 y.key.time, .int .i64 y.key.source, .int .i64 y.key.seq, .int .i64 y.to, .int .i64 y.value, .int .i64 t] 49)))
   clear hx
   by_cases hkd : 1 ≤ kd ∧ kd ≤ 5
   ·have hnext := Lib.hid (show ∀ b ∈ L.take (k + 1), 1 ≤ b.kind ∧ b.kind ≤ 5 from fun b hb => by
     rw [List.take_add_one, Hx.out, List.mem_append] at hb
     rcases hb with hb | hb
     ·exact hpre.out b hb
     ·simp at hb; subst hb; exact hkd)
    have h5 : kd = 1 ∨ kd = 2 ∨ kd = 3 ∨ kd = 4 ∨ kd = 5 := by omega
    clear hkd
    rcases h5 with rfl | rfl | rfl | rfl | rfl
    all_goals
     go_wp2_with fail
     go_roundw
     case rel => exact ⟨k + 1, by omega, rfl, by go_num, hnext, HF⟩
     case measure => simp [Go.RowKit.intOf]; omega
   ·have e1 : (kd == 1) = false := beq_eq_false_iff_ne.2 (by omega)
    have e2 : (kd == 2) = false := beq_eq_false_iff_ne.2 (by omega)
    have e3 : (kd == 3) = false := beq_eq_false_iff_ne.2 (by omega)
    have e4 : (kd == 4) = false := beq_eq_false_iff_ne.2 (by omega)
    have e5 : (kd == 5) = false := beq_eq_false_iff_ne.2 (by omega)
    have hres := Lib.hid (show (k : Int) = R by rw [← HR.out]; exact (oddC_at hpre.out Hx.out hkd).symm)
    clear hkd
    go_wp2_with fail
    simp only [Exit.noGoto]
    go_ret
    exact ⟨by rw [hres.out]; rfl, HF.out⟩
  ·have hres := Lib.hid (show (-1 : Int) = R by
    rw [← HR.out]
    exact (oddC_none (fun b hb => hpre.out b (by rw [List.take_of_length_le (by rw [Hl.out]; omega)]; exact hb))).symm)
   go_wp2_with fail
   simp only [Exit.noGoto]
   go_ret
   exact ⟨by rw [hres.out]; rfl, hfr.out⟩
theorem OnceE_snoc {L : List Ev} {k : Nat} {x : Ev} (hx : L[k]? = some x) (h : OnceE (L.take k)) (hn : ∀ y ∈ L.take k, y.name ≠ x.name) : OnceE (L.take (k + 1)) := by
 unfold OnceE at h ⊢
 rw [List.take_add_one, hx, List.map_append, List.nodup_append]
 refine ⟨h, by simp, ?_⟩
 intro a ha b hb
 simp at hb
 subst hb
 obtain ⟨y, hy, rfl⟩ := List.mem_map.1 ha
 exact hn y hy
/-- What Right has seen. -/
def SeenC (L : List Ev) (k : Nat) : Prop := (∀ x ∈ L.take k, RightE x) ∧ OnceE (L.take k)
theorem SeenC.step {L : List Ev} {k : Nat} {x : Ev} (hx : L[k]? = some x) (h : SeenC L k) (hr : RightE x) (hn : ∀ y ∈ L.take k, y.name ≠ x.name) : SeenC L (k + 1) := by
 refine ⟨fun y hy => ?_, OnceE_snoc hx h.2 hn⟩
 rw [List.take_add_one, hx, List.mem_append] at hy
 rcases hy with hy | hy
 ·exact h.1 y hy
 ·simp at hy; subst hy; exact hr
theorem SeenC.twice {L : List Ev} {k : Nat} {x : Ev} (hx : L[k]? = some x) {y : Ev} (hy : y ∈ L.take k) (hn : y.name = x.name) : ¬ OnceE L := fun h => by
 unfold OnceE at h
 have hk : k < L.length := (List.getElem?_eq_some_iff.1 hx).1
 rw [← List.take_append_drop k L, List.map_append, List.nodup_append] at h
 refine h.2.2 _ (List.mem_map.2 ⟨y, hy, rfl⟩) _ (List.mem_map.2 ⟨x, ?_, rfl⟩) hn
 rw [List.drop_eq_getElem_cons hk, ← (List.getElem?_eq_some_iff.1 hx).2]
 exact List.mem_cons_self
def EndR (L : List Ev) (c : Int) (w : World) (e : Ending) (w' : World) : Prop := ∃ b, e = .returned (.bool b) ∧ (b = true ↔ RightC L c) ∧ Fr0 none' w w'
theorem EndR.of {L : List Ev} {c : Int} {w w' : World} {e : Ending} {b : Bool} (he : e = .returned (.bool b)) (hb : b = true ↔ RightC L c) (hf : Fr0 none' w w') : EndR L c w e w' := ⟨b, he, hb, hf⟩
set_option maxRecDepth 100000 in
set_option maxHeartbeats 2000000 in
theorem CRight_any {w : World} {a : Option Addr} {n cap : Nat} {c : Int} (L : List Ev) (h : EsIn w a L) (hl : L.length = n) (hn : n ≤ 10000) (hcap : n ≤ cap) :
  Calls Try.prog 40 #[.slice a n cap, .int .i64 c] w fun e w' => EndR L c w e w' := by
 have HS := Lib.hid (Sorted_any (cap := cap) L h hl hn)
 have H := Lib.hid h
 have Hl := Lib.hid hl
 clear h hl
 by_cases g1 : c < 0
 ·have hb : Hid (false = true ↔ RightC L c) := Lib.hid ⟨fun h => by simp at h, fun h => by have := h.1.1; omega⟩
  have d1 : decide (c < 0) = true := decide_eq_true g1
  clear HS g1
  go_enter Try.func40, Try.ntmps40
  go_wp2_with fail
  go_ret
  exact EndR.of rfl hb.out (Fr0.refl _ _)
 by_cases g2 : c > 256
 ·have hb : Hid (false = true ↔ RightC L c) := Lib.hid ⟨fun h => by simp at h, fun h => by have := h.1.2; omega⟩
  have d1 : decide (c < 0) = false := decide_eq_false g1
  have d2 : decide (c > 256) = true := decide_eq_true g2
  have d2' : decide (256 < c) = true := decide_eq_true g2
  clear HS g1 g2
  go_enter Try.func40, Try.ntmps40
  go_wp2_with fail
  go_ret
  exact EndR.of rfl hb.out (Fr0.refl _ _)
 have d1 : decide (c < 0) = false := decide_eq_false g1
 have d2 : decide (c > 256) = false := decide_eq_false g2
 have d2' : decide (256 < c) = false := decide_eq_false g2
 by_cases g3 : (n : Int) > c
 ·have hb : Hid (false = true ↔ RightC L c) := Lib.hid ⟨fun h => by simp at h, fun h => by have := h.2.1; rw [Hl.out] at this; omega⟩
  have d3 : decide ((n : Int) > c) = true := decide_eq_true g3
  have d3' : decide (c < (n : Int)) = true := decide_eq_true g3
  clear HS g1 g2 g3
  go_enter Try.func40, Try.ntmps40
  go_wp2_with fail
  go_ret
  exact EndR.of rfl hb.out (Fr0.refl _ _)
 have d3 : decide ((n : Int) > c) = false := decide_eq_false g3
 have d3' : decide (c < (n : Int)) = false := decide_eq_false g3
 have Hc := Lib.hid (show (0 ≤ c ∧ c ≤ 256) ∧ (L.length : Int) ≤ c from ⟨⟨by omega, by omega⟩, by rw [Hl.out]; omega⟩)
 clear g1 g2 g3
 by_cases ho : AscE L
 ·rw [show decide (AscE L) = true from decide_eq_true ho] at HS
  have Ho := Lib.hid ho
  clear ho
  go_enter Try.func40, Try.ntmps40
  go_wp2_with fail
  refine HS.out.mono ?_
  rintro e w1 ⟨rfl, hf⟩
  have F1 := Lib.hid hf
  have H1 := Lib.hid (H.out.later hf)
  clear hf
  go_wp2_with fail
  go_loopw [26] (fun i wr => ∃ k : Nat, k ≤ n ∧ i = .int .i64 k ∧ Hid (SeenC L k) ∧ Hid (Fr0 none' w wr)) (fun i _ => n - (Go.RowKit.intOf i).toNat)
  case atStart => exact ⟨0, Nat.zero_le _, rfl, Lib.hid ⟨by simp, by simp [OnceE]⟩, F1⟩
  case round =>
   obtain ⟨k, hk, rfl, hseen, hfr⟩ := hrel
   by_cases hlt : k < n
   ·obtain ⟨x, hx⟩ : ∃ x, L[k]? = some x := ⟨_, List.getElem?_eq_getElem (by rw [Hl.out]; exact hlt)⟩
    obtain ⟨g, o, rfl, hxc⟩ := (H.out.later hfr.out) k x hx
    obtain ⟨x0, x1, x2, x3, x4⟩ := hxc
    have k1 : (0 : Int) ≤ (k : Int) := by omega
    have k2 : (k : Int) < (n : Int) := by omega
    have k3 : (k : Int) ≤ (cap : Int) := by omega
    obtain ⟨W1, hW1⟩ : ∃ W, wr.alloc (.cells #[.int .i64 x.key.time, .int .i64 x.key.source, .int .i64 x.key.seq, .int .i64 x.to, .int .i64 x.value] 47) = W := ⟨_, rfl⟩
    have hf1 : Fr0 none' wr W1 := by rw [← hW1]; exact (Fr0.refl _ _).alloc _
    have hb := (show W1.heap[wr.heap.size]? = some (.cells #[.int .i64 x.key.time, .int .i64 x.key.source, .int .i64 x.key.seq, .int .i64 x.to, .int .i64 x.value] 47 (0, 0)) by rw [← hW1]; exact World.alloc_heap_new _ _)
    have y0 := cells_in hb 0
    have y1 := cells_in hb 1
    have y2 := cells_in hb 2
    have y3 := cells_in hb 3
    have y4 := cells_in hb 4
    simp at y0 y1 y2 y3 y4
    have HZ := Lib.hid (fun (W' : World) (hf : Fr0 none' W1 W') => (⟨hf.later y0, hf.later y1, hf.later y2, hf.later y3, hf.later y4⟩ : W'.cell? ⟨wr.heap.size, 0, none⟩ = some (.int .i64 x.key.time) ∧ W'.cell? ⟨wr.heap.size, 1, none⟩ = some (.int .i64 x.key.source) ∧ W'.cell? ⟨wr.heap.size, 2, none⟩ = some (.int .i64 x.key.seq) ∧ W'.cell? ⟨wr.heap.size, 3, none⟩ = some (.int .i64 x.to) ∧ W'.cell? ⟨wr.heap.size, 4, none⟩ = some (.int .i64 x.value)))
    have HFW := Lib.hid (hfr.out.trans hf1)
    have HR := Lib.hid (QRight_is x)
    have Hx := Lib.hid hx
    have HFI := Lib.hid (fun (W : World) (hW : Fr0 none' W1 W) => find_any (n := k) (cap := cap) (L.take k) (((H.out.later (hfr.out.trans hf1)).later hW).take k) (by rw [List.length_take]; have := Hl.out; omega) (by omega) x.name)
    unfold Ev.name at HFI
    clear hb y0 y1 y2 y3 y4 hx hf1
    by_cases hr : RightE x
    ·rw [show decide (RightE x) = true from decide_eq_true hr] at HR
     have Hr := Lib.hid hr
     unfold evV at HR
     clear hr
     rcases idxI_cases (fun y : Ev => y.name == x.name) (L.take k) with ⟨hi, hnone⟩ | ⟨j, hi, _, y, hy, hyn, _⟩
     ·unfold Ev.name at hi
      rw [hi] at HFI
      have hstep := Lib.hid (hseen.out.step Hx.out Hr.out (fun y hy => by have := hnone y hy; simpa using this))
      clear hi hnone
      go_wp2_with fail
      refine wp_region_held_drew (S := fun W' => Fr0 none' W1 W') (by kernel_rfl) ((Fr0.refl none' W1).drew) (fun hHeld => ?_)
      refine tkn (i := 0) (v := evV x) (fun W' hSW => ?_) ?_
      ·obtain ⟨y0, y1, y2, y3, y4⟩ := HZ.out W' hSW
       first | (go_simp; done) | exact rfl | (go_simp; rfl) | (go_simp; omega)
      try simp only [pUt, pUn, sEt, sEz, sEs]
      refine take_call (i := 1) rfl (by kernel_rfl) (by kernel_rfl) (fun K hK => ?_)
      go_simp
      refine (HR.out _).mono ?_
      rintro e w2 ⟨rfl, hf⟩
      have F2 := Lib.hid (hHeld.trans hf)
      clear hf
      go_wp2_with fail
      refine hK.out _ _ F2.out (fun hHeld => ?_)
      clear hK K
      try simp only [pUt, pUn, sEt, sEz, sEs]
      refine tkn (i := 2) (v := .bool false) (fun W' hSW => ?_) ?_
      ·first | (go_simp; done) | exact rfl | (go_simp; rfl) | (go_simp; omega)
      try simp only [pUt, pUn, sEt, sEz, sEs]
      refine tkn (i := 3) (v := .bool false) (fun W' hSW => ?_) ?_
      ·first | (go_simp; done) | exact rfl | (go_simp; rfl) | (go_simp; omega)
      try simp only [pUt, pUn, sEt, sEz, sEs]
      refine tkn (i := 4) (v := .slice (some ⟨g, o, none⟩) n cap) (fun W' hSW => ?_) ?_
      ·first | (go_simp; done) | exact rfl | (go_simp; rfl) | (go_simp; omega)
      try simp only [pUt, pUn, sEt, sEz, sEs]
      refine tkn (i := 5) (v := .int .i64 (k : Int)) (fun W' hSW => ?_) ?_
      ·first | (go_simp; done) | exact rfl | (go_simp; rfl) | (go_simp; omega)
      try simp only [pUt, pUn, sEt, sEz, sEs]
      refine tkn (i := 6) (v := .slice (some ⟨g, o, none⟩) k cap) (fun W' hSW => ?_) ?_
      ·first | (go_simp; done) | exact rfl | (go_simp; rfl) | (go_simp; omega)
      try simp only [pUt, pUn, sEt, sEz, sEs]
      refine tkn (i := 7) (v := .pointer (some ⟨wr.heap.size, 0, none⟩)) (fun W' hSW => ?_) ?_
      ·obtain ⟨y0, y1, y2, y3, y4⟩ := HZ.out W' hSW
       first | (go_simp; done) | exact rfl | (go_simp; rfl) | (go_simp; omega)
      try simp only [pUt, pUn, sEt, sEz, sEs]
      refine tkn (i := 8) (v := .pointer (some ⟨wr.heap.size, 1, none⟩)) (fun W' hSW => ?_) ?_
      ·obtain ⟨y0, y1, y2, y3, y4⟩ := HZ.out W' hSW
       first | (go_simp; done) | exact rfl | (go_simp; rfl) | (go_simp; omega)
      try simp only [pUt, pUn, sEt, sEz, sEs]
      refine tkn (i := 9) (v := .int .i64 x.key.source) (fun W' hSW => ?_) ?_
      ·obtain ⟨y0, y1, y2, y3, y4⟩ := HZ.out W' hSW
       first | (go_simp; done) | exact rfl | (go_simp; rfl) | (go_simp; omega)
      try simp only [pUt, pUn, sEt, sEz, sEs]
      refine tkn (i := 10) (v := .pointer (some ⟨wr.heap.size, 0, none⟩)) (fun W' hSW => ?_) ?_
      ·obtain ⟨y0, y1, y2, y3, y4⟩ := HZ.out W' hSW
       first | (go_simp; done) | exact rfl | (go_simp; rfl) | (go_simp; omega)
      try simp only [pUt, pUn, sEt, sEz, sEs]
      refine tkn (i := 11) (v := .pointer (some ⟨wr.heap.size, 2, none⟩)) (fun W' hSW => ?_) ?_
      ·obtain ⟨y0, y1, y2, y3, y4⟩ := HZ.out W' hSW
       first | (go_simp; done) | exact rfl | (go_simp; rfl) | (go_simp; omega)
      try simp only [pUt, pUn, sEt, sEz, sEs]
      refine tkn (i := 12) (v := .int .i64 x.key.seq) (fun W' hSW => ?_) ?_
      ·obtain ⟨y0, y1, y2, y3, y4⟩ := HZ.out W' hSW
       first | (go_simp; done) | exact rfl | (go_simp; rfl) | (go_simp; omega)
      try simp only [pUt, pUn, sEt, sEz, sEs]
      refine take_call (i := 13) rfl (by kernel_rfl) (by kernel_rfl) (fun K hK => ?_)
      go_simp
      refine (HFI.out _ hHeld).mono ?_
      rintro e w3 ⟨rfl, hf⟩
      have F3 := Lib.hid (hHeld.trans hf)
      clear hf
      go_wp2_with fail
      refine hK.out _ _ F3.out (fun hHeld => ?_)
      clear hK K
      try simp only [pUt, pUn, sEt, sEz, sEs]
      refine tkn (i := 14) (v := .bool false) (fun W' hSW => ?_) ?_
      ·first | (go_simp; done) | exact rfl | (go_simp; rfl) | (go_simp; omega)
      try simp only [pUt, pUn, sEt, sEz, sEs]
      refine tkn (i := 15) (v := .bool false) (fun W' hSW => ?_) ?_
      ·first | (go_simp; done) | exact rfl | (go_simp; rfl) | (go_simp; omega)
      try simp only [pUt, pUn, sEt, sEz, sEs]
      refine wpAnyH_done (by kernel_rfl) ?_ _
      have F4 := Lib.hid (HFW.out.trans hHeld)
      clear hHeld F2 F3
      go_wp2_with fail
      go_roundw
      case rel => exact ⟨k + 1, by omega, by go_num, hstep, F4⟩
      case measure => simp [Go.RowKit.intOf]; omega
     ·unfold Ev.name at hi
      rw [hi] at HFI
      have d1 : decide ((j : Int) ≥ 0) = true := decide_eq_true (by omega)
      have d2 : decide ((0 : Int) ≤ (j : Int)) = true := decide_eq_true (by omega)
      have hres : Hid (false = true ↔ RightC L c) := Lib.hid ⟨fun h => by simp at h, fun h => absurd h.2.2.2.2 (SeenC.twice Hx.out (List.mem_of_getElem? hy) (by simpa using hyn))⟩
      clear hi hy hyn
      go_wp2_with fail
      refine wp_region_held_drew (S := fun W' => Fr0 none' W1 W') (by kernel_rfl) ((Fr0.refl none' W1).drew) (fun hHeld => ?_)
      refine tkn (i := 0) (v := evV x) (fun W' hSW => ?_) ?_
      ·obtain ⟨y0, y1, y2, y3, y4⟩ := HZ.out W' hSW
       first | (go_simp; done) | exact rfl | (go_simp; rfl) | (go_simp; omega)
      try simp only [pUt, pUn, sEt, sEz, sEs]
      refine take_call (i := 1) rfl (by kernel_rfl) (by kernel_rfl) (fun K hK => ?_)
      go_simp
      refine (HR.out _).mono ?_
      rintro e w2 ⟨rfl, hf⟩
      have F2 := Lib.hid (hHeld.trans hf)
      clear hf
      go_wp2_with fail
      refine hK.out _ _ F2.out (fun hHeld => ?_)
      clear hK K
      try simp only [pUt, pUn, sEt, sEz, sEs]
      refine tkn (i := 2) (v := .bool false) (fun W' hSW => ?_) ?_
      ·first | (go_simp; done) | exact rfl | (go_simp; rfl) | (go_simp; omega)
      try simp only [pUt, pUn, sEt, sEz, sEs]
      refine tkn (i := 3) (v := .bool false) (fun W' hSW => ?_) ?_
      ·first | (go_simp; done) | exact rfl | (go_simp; rfl) | (go_simp; omega)
      try simp only [pUt, pUn, sEt, sEz, sEs]
      refine tkn (i := 4) (v := .slice (some ⟨g, o, none⟩) n cap) (fun W' hSW => ?_) ?_
      ·first | (go_simp; done) | exact rfl | (go_simp; rfl) | (go_simp; omega)
      try simp only [pUt, pUn, sEt, sEz, sEs]
      refine tkn (i := 5) (v := .int .i64 (k : Int)) (fun W' hSW => ?_) ?_
      ·first | (go_simp; done) | exact rfl | (go_simp; rfl) | (go_simp; omega)
      try simp only [pUt, pUn, sEt, sEz, sEs]
      refine tkn (i := 6) (v := .slice (some ⟨g, o, none⟩) k cap) (fun W' hSW => ?_) ?_
      ·first | (go_simp; done) | exact rfl | (go_simp; rfl) | (go_simp; omega)
      try simp only [pUt, pUn, sEt, sEz, sEs]
      refine tkn (i := 7) (v := .pointer (some ⟨wr.heap.size, 0, none⟩)) (fun W' hSW => ?_) ?_
      ·obtain ⟨y0, y1, y2, y3, y4⟩ := HZ.out W' hSW
       first | (go_simp; done) | exact rfl | (go_simp; rfl) | (go_simp; omega)
      try simp only [pUt, pUn, sEt, sEz, sEs]
      refine tkn (i := 8) (v := .pointer (some ⟨wr.heap.size, 1, none⟩)) (fun W' hSW => ?_) ?_
      ·obtain ⟨y0, y1, y2, y3, y4⟩ := HZ.out W' hSW
       first | (go_simp; done) | exact rfl | (go_simp; rfl) | (go_simp; omega)
      try simp only [pUt, pUn, sEt, sEz, sEs]
      refine tkn (i := 9) (v := .int .i64 x.key.source) (fun W' hSW => ?_) ?_
      ·obtain ⟨y0, y1, y2, y3, y4⟩ := HZ.out W' hSW
       first | (go_simp; done) | exact rfl | (go_simp; rfl) | (go_simp; omega)
      try simp only [pUt, pUn, sEt, sEz, sEs]
      refine tkn (i := 10) (v := .pointer (some ⟨wr.heap.size, 0, none⟩)) (fun W' hSW => ?_) ?_
      ·obtain ⟨y0, y1, y2, y3, y4⟩ := HZ.out W' hSW
       first | (go_simp; done) | exact rfl | (go_simp; rfl) | (go_simp; omega)
      try simp only [pUt, pUn, sEt, sEz, sEs]
      refine tkn (i := 11) (v := .pointer (some ⟨wr.heap.size, 2, none⟩)) (fun W' hSW => ?_) ?_
      ·obtain ⟨y0, y1, y2, y3, y4⟩ := HZ.out W' hSW
       first | (go_simp; done) | exact rfl | (go_simp; rfl) | (go_simp; omega)
      try simp only [pUt, pUn, sEt, sEz, sEs]
      refine tkn (i := 12) (v := .int .i64 x.key.seq) (fun W' hSW => ?_) ?_
      ·obtain ⟨y0, y1, y2, y3, y4⟩ := HZ.out W' hSW
       first | (go_simp; done) | exact rfl | (go_simp; rfl) | (go_simp; omega)
      try simp only [pUt, pUn, sEt, sEz, sEs]
      refine take_call (i := 13) rfl (by kernel_rfl) (by kernel_rfl) (fun K hK => ?_)
      go_simp
      refine (HFI.out _ hHeld).mono ?_
      rintro e w3 ⟨rfl, hf⟩
      have F3 := Lib.hid (hHeld.trans hf)
      clear hf
      go_wp2_with fail
      refine hK.out _ _ F3.out (fun hHeld => ?_)
      clear hK K
      try simp only [pUt, pUn, sEt, sEz, sEs]
      refine tkn (i := 14) (v := .bool true) (fun W' hSW => ?_) ?_
      ·first | (go_simp; done) | exact rfl | (go_simp; rfl) | (go_simp; omega)
      try simp only [pUt, pUn, sEt, sEz, sEs]
      refine tkn (i := 15) (v := .bool true) (fun W' hSW => ?_) ?_
      ·first | (go_simp; done) | exact rfl | (go_simp; rfl) | (go_simp; omega)
      try simp only [pUt, pUn, sEt, sEz, sEs]
      refine wpAnyH_done (by kernel_rfl) ?_ _
      have F4 := Lib.hid (HFW.out.trans hHeld)
      clear hHeld F2 F3
      go_wp2_with fail
      go_ret
      exact EndR.of rfl hres.out (F4.out)
    ·rw [show decide (RightE x) = false from decide_eq_false hr] at HR
     have hres : Hid (false = true ↔ RightC L c) := Lib.hid ⟨fun h => by simp at h, fun h => absurd (h.2.2.2.1 x (List.mem_of_getElem? Hx.out)) hr⟩
     unfold evV at HR
     clear hr
     go_wp2_with fail
     refine wp_region_held_drew (S := fun W' => Fr0 none' W1 W') (by kernel_rfl) ((Fr0.refl none' W1).drew) (fun hHeld => ?_)
     refine tkn (i := 0) (v := evV x) (fun W' hSW => ?_) ?_
     ·obtain ⟨y0, y1, y2, y3, y4⟩ := HZ.out W' hSW
      first | (go_simp; done) | exact rfl | (go_simp; rfl) | (go_simp; omega)
     try simp only [pUt, pUn, sEt, sEz, sEs]
     refine take_call (i := 1) rfl (by kernel_rfl) (by kernel_rfl) (fun K hK => ?_)
     go_simp
     refine (HR.out _).mono ?_
     rintro e w2 ⟨rfl, hf⟩
     have F2 := Lib.hid (hHeld.trans hf)
     clear hf
     go_wp2_with fail
     refine hK.out _ _ F2.out (fun hHeld => ?_)
     clear hK K
     try simp only [pUt, pUn, sEt, sEz, sEs]
     refine tkn (i := 2) (v := .bool true) (fun W' hSW => ?_) ?_
     ·first | (go_simp; done) | exact rfl | (go_simp; rfl) | (go_simp; omega)
     try simp only [pUt, pUn, sEt, sEz, sEs]
     refine tkn (i := 3) (v := .bool true) (fun W' hSW => ?_) ?_
     ·first | (go_simp; done) | exact rfl | (go_simp; rfl) | (go_simp; omega)
     try simp only [pUt, pUn, sEt, sEz, sEs]
     refine take_off (i := 4) rfl (by kernel_rfl) (by kernel_rfl) (by kernel_rfl) (fun _ _ _ h => h) (by kernel_rfl) (by assumption) ?_
     try simp only [pUt, pUn, sEt, sEz, sEs]
     refine take_off (i := 5) rfl (by kernel_rfl) (by kernel_rfl) (by kernel_rfl) (fun _ _ _ h => h) (by kernel_rfl) (by assumption) ?_
     try simp only [pUt, pUn, sEt, sEz, sEs]
     refine take_off (i := 6) rfl (by kernel_rfl) (by kernel_rfl) (by kernel_rfl) (fun _ _ _ h => h) (by kernel_rfl) (by assumption) ?_
     try simp only [pUt, pUn, sEt, sEz, sEs]
     refine take_off (i := 7) rfl (by kernel_rfl) (by kernel_rfl) (by kernel_rfl) (fun _ _ _ h => h) (by kernel_rfl) (by assumption) ?_
     try simp only [pUt, pUn, sEt, sEz, sEs]
     refine take_off (i := 8) rfl (by kernel_rfl) (by kernel_rfl) (by kernel_rfl) (fun _ _ _ h => h) (by kernel_rfl) (by assumption) ?_
     try simp only [pUt, pUn, sEt, sEz, sEs]
     refine take_off (i := 9) rfl (by kernel_rfl) (by kernel_rfl) (by kernel_rfl) (fun _ _ _ h => h) (by kernel_rfl) (by assumption) ?_
     try simp only [pUt, pUn, sEt, sEz, sEs]
     refine take_off (i := 10) rfl (by kernel_rfl) (by kernel_rfl) (by kernel_rfl) (fun _ _ _ h => h) (by kernel_rfl) (by assumption) ?_
     try simp only [pUt, pUn, sEt, sEz, sEs]
     refine take_off (i := 11) rfl (by kernel_rfl) (by kernel_rfl) (by kernel_rfl) (fun _ _ _ h => h) (by kernel_rfl) (by assumption) ?_
     try simp only [pUt, pUn, sEt, sEz, sEs]
     refine take_off (i := 12) rfl (by kernel_rfl) (by kernel_rfl) (by kernel_rfl) (fun _ _ _ h => h) (by kernel_rfl) (by assumption) ?_
     try simp only [pUt, pUn, sEt, sEz, sEs]
     refine take_off (i := 13) rfl (by kernel_rfl) (by kernel_rfl) (by kernel_rfl) (fun _ _ _ h => h) (by kernel_rfl) (by assumption) ?_
     try simp only [pUt, pUn, sEt, sEz, sEs]
     refine take_off (i := 14) rfl (by kernel_rfl) (by kernel_rfl) (by kernel_rfl) (fun _ _ _ h => h) (by kernel_rfl) (by assumption) ?_
     try simp only [pUt, pUn, sEt, sEz, sEs]
     refine tkn (i := 15) (v := .bool true) (fun W' hSW => ?_) ?_
     ·first | (go_simp; done) | exact rfl | (go_simp; rfl) | (go_simp; omega)
     try simp only [pUt, pUn, sEt, sEz, sEs]
     refine wpAnyH_done (by kernel_rfl) ?_ _
     have F4 := Lib.hid (HFW.out.trans hHeld)
     clear hHeld F2
     go_wp2_with fail
     go_ret
     exact EndR.of rfl hres.out (F4.out)
   ·have hres : Hid (true = true ↔ RightC L c) := Lib.hid ⟨fun _ => ⟨Hc.out.1, Hc.out.2, Ho.out, fun x hx => hseen.out.1 x (by rw [List.take_of_length_le (by rw [Hl.out]; omega)]; exact hx), by have := hseen.out.2; rw [List.take_of_length_le (by rw [Hl.out]; omega)] at this; exact this⟩, fun _ => rfl⟩
    go_wp2_with fail
    go_ret
    exact EndR.of rfl (by simpa using hres.out) hfr.out
 ·rw [show decide (AscE L) = false from decide_eq_false ho] at HS
  have hb : Hid (false = true ↔ RightC L c) := Lib.hid ⟨fun h => by simp at h, fun h => absurd h.2.2.1 ho⟩
  clear ho
  go_enter Try.func40, Try.ntmps40
  go_wp2_with fail
  refine HS.out.mono ?_
  rintro e w1 ⟨rfl, hf⟩
  have F1 := Lib.hid hf
  clear hf
  go_wp2_with fail
  go_ret
  exact EndR.of rfl hb.out (F1.out)
end Go.Proofs.Ytmbjfmlicffclaa

/-
  slices.Collect at what acts told.
-/
namespace Go.Proofs.Ytmbjfmlicffclaa
open Go.RowKit
attribute [local go_sem] Oper.semAt_some wide_fn wide_depth wide_fnR wide_depthR

theorem info_told : (Try.prog.info? 51).map (fun i => (i.zero, i.size, i.bytes)) = some (some (.agg #[.int .i64 0, .slice none 0 0]), 2, 32) := by kernel_rfl
def flatTd (l : List Td) : List Value := l.flatMap Td.cells
theorem flatTd_snoc (l : List Td) (x : Td) : flatTd (l ++ [x]) = flatTd l ++ x.cells := by simp [flatTd]
/-- What was told, each in a row of its own, apart from S. -/
structure TdsOk (W : World) (T : List Tl) (ys : List Td) (v : Value) (base : Nat) (S : Nat → Prop) : Prop where
 tl : ys.map Td.tl = T
 row : ∀ y ∈ ys, W.ownsRow 0 47 5 y.v y.evs.length (flatEv y.evs)
 out : ∀ y ∈ ys, ∀ g, y.v.ownBlock = some g → ¬ S g ∧ v.ownBlock ≠ some g ∧ base ≤ g
 two : ys.Pairwise (fun a b => ∀ g, a.v.ownBlock = some g → b.v.ownBlock ≠ some g)
theorem TdsOk.nil (W : World) (v : Value) (base : Nat) (S : Nat → Prop) : TdsOk W [] [] v base S := ⟨rfl, fun _ h => by simp at h, fun _ h => by simp at h, List.Pairwise.nil⟩
theorem TdsOk.lt {W : World} {T : List Tl} {ys : List Td} {v : Value} {base : Nat} {S : Nat → Prop} (h : TdsOk W T ys v base S) : ∀ y ∈ ys, ∀ g, y.v.ownBlock = some g → g < W.heap.size := fun y hy g hg => ((h.row y hy).lt g hg).2
theorem TdsOk.fr0 {W W' : World} {T : List Tl} {ys : List Td} {v : Value} {base : Nat} {S S' : Nat → Prop} (h : TdsOk W T ys v base S) (hf : Fr0 S' W W') (hS : ∀ y ∈ ys, ∀ g, y.v.ownBlock = some g → ¬ S' g) : TdsOk W' T ys v base S :=
 ⟨h.tl, fun y hy => ownsRow_fr0 (h.row y hy) hf (fun g hg => hS y hy g hg), h.out, h.two⟩
theorem TdsOk.later {W W' : World} {T : List Tl} {ys : List Td} {v : Value} {base : Nat} {S : Nat → Prop} (h : TdsOk W T ys v base S) (hf : Fr0 none' W W') : TdsOk W' T ys v base S := h.fr0 hf (fun _ _ _ _ h => h)
theorem TdsOk.mono {W : World} {T : List Tl} {ys : List Td} {v v' : Value} {base base' : Nat} {S S' : Nat → Prop} (h : TdsOk W T ys v base S) (hS : ∀ g, g < W.heap.size → S' g → S g) (hv : ∀ g, g < W.heap.size → base ≤ g → v'.ownBlock = some g → v.ownBlock = some g) (hb : base' ≤ base) : TdsOk W T ys v' base' S' :=
 ⟨h.tl, h.row, fun y hy g hg => ⟨fun hs => (h.out y hy g hg).1 (hS g (h.lt y hy g hg) hs), fun e => (h.out y hy g hg).2.1 (hv g (h.lt y hy g hg) (h.out y hy g hg).2.2 e), Nat.le_trans hb (h.out y hy g hg).2.2⟩, h.two⟩
theorem TdsOk.snoc {W : World} {T : List Tl} {ys : List Td} {v : Value} {base : Nat} {S : Nat → Prop} (h : TdsOk W T ys v base S) {y : Td} (hr : W.ownsRow 0 47 5 y.v y.evs.length (flatEv y.evs)) (ho : ∀ g, y.v.ownBlock = some g → ¬ S g ∧ v.ownBlock ≠ some g ∧ base ≤ g) (hn : ∀ x ∈ ys, ∀ g, x.v.ownBlock = some g → y.v.ownBlock ≠ some g) : TdsOk W (T ++ [y.tl]) (ys ++ [y]) v base S :=
 ⟨by rw [List.map_append, h.tl]; rfl, fun x hx => (List.mem_append.1 hx).elim (h.row x) (fun e => by rw [List.mem_singleton.1 e]; exact hr), fun x hx => (List.mem_append.1 hx).elim (h.out x) (fun e => by rw [List.mem_singleton.1 e]; exact ho),
  List.pairwise_append.2 ⟨h.two, List.pairwise_singleton _ _, fun a ha b hb => by rw [List.mem_singleton.1 hb]; exact hn a ha⟩⟩
set_option maxRecDepth 100000 in
set_option maxHeartbeats 4000000 in
theorem AppendSeqT (gf : Nat) (lb : Array Value) (T : List Tl) (Fin : (Nat → Prop) → World → Prop) (own rd : Nat → Prop) (w : World) (eg : ∀ args w, (callFunc gf args).run Try.prog w = .ok (.enter gf args) w)
  (hit : IterR Try.prog gf lb (fun y : Td => #[y.val]) T.length (ToldR T) Fin own rd w) (hFin : ∀ X W1 W2 S, Fin X W1 → Fr0 S W1 W2 → (∀ k, own k ∨ X k → ¬ S k) → Fin X W2) (ho : ∀ k, own k → k < w.heap.size) (hr : ∀ k, rd k → k < w.heap.size) (hlen : T.length ≤ 1000000) :
  CallsIn Fence.wide 0 Try.prog 72 #[.slice none 0 0, .func (.func gf) #[] lb] w fun e w' =>
   ∃ v ys X, e = .returned v ∧ w'.ownsRow w.heap.size 51 2 v T.length (flatTd ys) ∧ TdsOk w' T ys v w.heap.size (fun k => own k ∨ X k) ∧ (∀ g, v.ownBlock = some g → ¬ X g) ∧ (∀ k, X k → w.heap.size ≤ k) ∧ Fin X w' ∧ Fr0 own w w' := by
 obtain ⟨i0, hi, hz0, hz1, hz2⟩ := info_parts info_told
 refine callsIn_of_wp_marks Try.func72 rfl trivial ?_ rfl
 simp only [Try.ntmps72, List.size_toArray, List.length_cons, List.length_nil, Nat.reduceAdd, Nat.reduceSub, Array.replicate_succ, Array.replicate_zero, List.push_toArray, List.append_toArray, List.nil_append, List.cons_append]
 gi_wp2_with fail
 refine wpIn_iterR (gf := gf) (lb := lb) rfl eg hit (fun i x X Z W h => h.2.2.2) ?hRf ?hFin (Fr0.keep ((Fr0.refl none' w).alloc _) (fun k hk => ⟨hr k hk, id⟩)) (fun _ => rfl) (fun k hk => by have := ho k hk; simp; omega) (fun k hk => by have := hr k hk; simp; omega)
  (fun i X W => ∃ v ys, Box W w.heap.size v ∧ W.ownsRow (w.heap.size + 3) 51 2 v i (flatTd ys) ∧ TdsOk W (T.take i) ys v (w.heap.size + 3) (fun k => own k ∨ X k) ∧ Fr0 own w W ∧ ∀ g, v.ownBlock = some g → ¬ X g)
  (fun _ _ => False) ?hI (fun _ _ _ h _ => h.elim) ?h0
  (fun x W a' => ∃ B, a' = { tmps := #[.slice none 0 0, .func (.func gf) #[] lb, .pointer (some ⟨w.heap.size, 0, none⟩), undef, .slice none 0 0, .pointer (some ⟨B, 0, none⟩), .func (.func gf) #[] lb, x.val, undef, undef, undef, undef, undef], defers := [] } ∧ w.heap.size + 2 < B ∧ W.heap[B]? = some (.cells x.cells.toArray 51 (0, 0)))
  ?assign ?keep ?body ?done (fun _ _ _ _ h _ => h.elim)
 case hRf =>
  rintro i x X Z W1 W2 ⟨h1, h2, h3, h4⟩ hX hf
  exact ⟨h1, ownsRow_fr0 h2 hf (fun g hg e => by have := hX g (h3 g hg).1; have e : g = _ := e; omega), h3, h4⟩
 case hFin =>
  intro X W1 W2 h hX hf
  refine hFin X W1 W2 _ h hf (fun k hk e => ?_)
  simp only [World.size_alloc] at e hX
  rcases hk with hk | hk
  ·have := ho k hk; omega
  ·have := hX k hk; omega
 case hI =>
  rintro i X Y W1 W2 ⟨v, ys, hb, hrow, hT, hfr, hX⟩ hXb hf hY
  simp only [World.size_alloc] at hf hXb
  refine ⟨v, ys, hb.fr0 hf (fun h => ?_), ownsRow_fr0 hrow hf (fun g hg h => ?_), (hT.mono (S' := fun k => own k ∨ Y k) (fun g hg h => ?_) (fun _ _ _ h => h) (Nat.le_refl _)).fr0 hf (fun y hy g hg h => ?_), hfr.trans' hf (fun k hk h => ?_), fun g hg hy => ?_⟩
  ·rcases h with h | h | h | h
   ·have := ho _ h; omega
   ·have := hXb _ h; omega
   ·omega
   ·omega
  ·have hlt := hrow.lt g hg
   rcases h with h | h | h | h
   ·have := ho _ h; omega
   ·exact hX g hg h
   ·omega
   ·omega
  ·rcases h with h | h
   ·exact .inl h
   ·rcases hY g h with h | h
    ·exact .inr h
    ·omega
  ·have h9 := hT.out y hy g hg
   rcases h with h | h | h | h
   ·exact h9.1 (.inl h)
   ·exact h9.1 (.inr h)
   ·omega
   ·omega
  ·rcases h with h | h | h | h
   ·exact h
   ·have := hXb _ h; omega
   ·omega
   ·omega
  ·rcases hY g hy with h | h
   ·exact hX g hg h
   ·have := hrow.lt g hg; omega
 case h0 =>
  exact ⟨_, [], Box.new w _ _, World.ownsRow_nil _ _ _ _, TdsOk.nil _ _ _ _, (Fr0.refl _ _).alloc _, fun g hg => by cases hg⟩
 case keep =>
  rintro x W1 W2 a' ⟨B, rfl, hB, hc⟩ hf
  refine ⟨B, rfl, hB, (hf.block B (Array.getElem?_eq_some_iff.1 hc).1 (by simp; omega)).trans hc⟩
 case assign =>
  intro l x W K hlt hK
  simp only [World.size_alloc] at hlt
  simp only [Td.val]
  gi_wp2
  exact hK _ _ ⟨W.heap.size, by simp [Td.val], by omega, World.alloc_heap_new W _⟩ ((Fr0.refl _ _).alloc _)
 case body =>
  rintro l i x X Z W a' r ⟨hxi, hxr, hxo, hZX⟩ ⟨v, ys, hb, hrow, hT, hfr, hX⟩ hXb ⟨B, rfl, hB, hcB⟩ hD hL
  have hlt : i < T.length := (List.getElem?_eq_some_iff.1 hxi).1
  have hsz : w.heap.size + 2 < W.heap.size := by have := (Array.getElem?_eq_some_iff.1 hL).1; simpa using this
  have hc := hb.cell
  have hf := hb.frozen
  simp only [World.size_alloc] at hXb
  have b0 := cells_of hcB 0
  have b1 := cells_of hcB 1
  simp [Td.cells] at b0 b1
  have HX := Lib.hid hX
  have HXb := Lib.hid hXb
  have Hxi := Lib.hid hxi
  have Hxr := Lib.hid hxr
  have Hxo := Lib.hid hxo
  have HZX := Lib.hid hZX
  have HT := Lib.hid hT
  clear hxi hxr hxo hZX hT hD hL hcB hX hXb
  have hsrc := Src.newRow (P := Try.prog) (size := 2) (tx := 40) (ty := 51) W Try.underlying40 1 1 x.cells rfl (by simp [Value.oneCell', Td.cells])
  simp only [Td.cells] at hsrc
  simp only [Td.val]
  gi_wp2_with (gi_at_builtin; refine wpListIn_append_k rfl _ _ 40 40 rfl (w.heap.size + 3) 51 i0 (.agg #[.int .i64 0, .slice none 0 0]) 2 32 Try.underlying40 hi hz0 hz1 hz2 rfl (by decide) v i _ rfl (hrow.alloc _) (.slice (some ⟨W.heap.size, 0, none⟩) 1 1) 1 _ rfl hsrc (by unfold maxLen; omega) (by omega) (by simp; omega) ?_; intro v' w1 hown' hgrow hdr hob; obtain ⟨g', cap', rfl⟩ := ownsRow_k_succ hown'; have hfg := ((Fr0.refl (fun k => v.ownBlock = some k) W).alloc _).grown hgrow (fun k hk _ => hk); have hb1 := hb.fr0 hfg (fun h => by have := (hrow.lt _ h).1; omega); have hc1 := hb1.cell; have hf1 := hb1.frozen)
  have hb2 := hb1.set (.slice (some ⟨g', 0, none⟩) (i + 1) cap')
  have hf2 := (hfg.mono (S' := fun k => k = w.heap.size ∨ v.ownBlock = some k) (fun k _ h => .inr h)).setCell (b := w.heap.size) (o := 0) (fun _ => .inl rfl) (.slice (some ⟨g', 0, none⟩) (i + 1) cap')
  have hnb : ∀ g, g < W.heap.size → w.heap.size + 3 ≤ g → (Value.slice (some ⟨g', 0, none⟩) (i + 1) cap').ownBlock = some g → v.ownBlock = some g := fun g hg _ e => by
   rcases hob with h | h
   ·exact h.symm.trans e
   ·rw [h] at e
    have e := Option.some.inj e
    rw [World.size_alloc] at e
    omega
  have hxb : ∀ g, x.v.ownBlock = some g → w.heap.size + 2 < g ∧ g < W.heap.size := fun g hg => by
   have := HXb.out g (Hxo.out g hg).1
   omega
  refine ⟨_, hf2, ?_, ⟨_, ys ++ [x], hb2, ?_, ?_, ?_, ?_⟩⟩
  ·intro k h1 h2
   simp only [World.size_alloc] at h2
   rcases h1 with h1 | h1
   ·rcases h2 with h | h | h | h
    ·have := hr _ h; omega
    ·have := HXb.out _ (HZX.out _ h); omega
    ·omega
    ·omega
   ·have h3 := hrow.lt _ h1
    rcases h2 with h | h | h | h
    ·have := hr _ h; omega
    ·exact HX.out _ h1 (HZX.out _ h)
    ·omega
    ·omega
  ·have h3 := ownsRow_setCell_below hown' (a := ⟨w.heap.size, 0, none⟩) (by simp) (.slice (some ⟨g', 0, none⟩) (i + 1) cap')
   rw [flatTd_snoc]
   exact h3
  ·have htk : T.take (i + 1) = T.take i ++ [x.tl] := by rw [List.take_add_one, Hxi.out]; rfl
   rw [htk]
   have h1 := (HT.out.mono (S' := fun k => own k ∨ Z k) (fun g _ h => h.imp id (HZX.out g)) hnb (Nat.le_refl _))
   have h2 := h1.snoc (y := x) Hxr.out (fun g hg => ⟨fun h => by
     rcases h with h | h
     ·have := ho g h; have := hxb g hg; omega
     ·exact (Hxo.out g hg).2 h, fun e => HX.out g (hnb g (hxb g hg).2 (by have := hxb g hg; omega) e) (Hxo.out g hg).1, by have := hxb g hg; omega⟩) (fun y hy g hg e => (HT.out.out y hy g hg).1 (.inr (Hxo.out g e).1))
   refine h2.fr0 hf2 (fun y hy g hg h => ?_)
   rcases List.mem_append.1 hy with hy | hy
   ·have h9 := HT.out.out y hy g hg
    rcases h with h | h
    ·omega
    ·exact h9.2.1 h
   ·rw [List.mem_singleton.1 hy] at hg
    rcases h with h | h
    ·have := hxb g hg; omega
    ·exact HX.out g h (Hxo.out g hg).1
  ·exact hfr.trans' hf2 (fun k hk h => by
    rcases h with h | h
    ·omega
    ·have := hrow.lt _ h; omega)
  ·intro g hg hZg
   rcases hob with h | h
   ·rw [hg] at h; exact HX.out _ h.symm (HZX.out _ hZg)
   ·rw [hg] at h
    injection h with h
    have := HXb.out _ (HZX.out _ hZg)
    simp at h; omega
 case done =>
  rintro D X W hDe ⟨v, ys, hb, hrow, hT, hfr, hX⟩ hXb hfin hK
  obtain rfl : D = w.heap.size + 1 := by simpa using hDe
  have hc := hb.cell
  rw [List.take_of_length_le (Nat.le_refl _)] at hT
  simp only [World.size_alloc] at hXb
  have hD : w.heap.size + 1 < W.heap.size := by have := (Array.getElem?_eq_some_iff.1 hK).1; simpa using this
  have hfp : Fr0 (fun k => k = w.heap.size + 1) W (W.putObj (w.heap.size + 1) (.deferred none)) := Fr0.putNew _ _ rfl
  have hfe : Fr0 own w (W.putObj (w.heap.size + 1) (.deferred none)) := hfr.putObj (fun h => by omega) _
  have hrow' := ownsRow_fr0 (ownsRow_k_mono hrow (by omega : w.heap.size ≤ w.heap.size + 3)) hfp (fun g hg h => by have := (hrow.lt g hg).1; have h : g = w.heap.size + 1 := h; omega)
  have hT' := (hT.fr0 hfp (fun y hy g hg h => by have := (hT.out y hy g hg).2.2; have h : g = w.heap.size + 1 := h; omega)).mono (S' := fun k => own k ∨ X k) (v' := v) (fun _ _ h => h) (fun _ _ _ h => h) (by omega : w.heap.size ≤ w.heap.size + 3)
  have hfin' := hFin X _ _ _ hfin hfp (fun k hk e => by
   have e : k = w.heap.size + 1 := e
   rcases hk with hk | hk
   ·have := ho k hk; omega
   ·have := hXb k hk; omega)
  have HP := Lib.hid (show (W.putObj (w.heap.size + 1) (.deferred none)).ownsRow w.heap.size 51 2 v T.length (flatTd ys) ∧ TdsOk (W.putObj (w.heap.size + 1) (.deferred none)) T ys v w.heap.size (fun k => own k ∨ X k) ∧ (∀ g, v.ownBlock = some g → ¬ X g) ∧ (∀ k, X k → w.heap.size ≤ k) ∧ Fin X (W.putObj (w.heap.size + 1) (.deferred none)) ∧ Fr0 own w (W.putObj (w.heap.size + 1) (.deferred none)) from ⟨hrow', hT', hX, fun k hk => by have := hXb k hk; omega, hfin', hfe⟩)
  have hK' := hK
  have hfv : ∃ a n c, v = .slice a n c := by
   rcases hrow.2 with ⟨rfl, _⟩ | ⟨g, cap, cur, rfl, _⟩
   ·exact ⟨_, _, _, rfl⟩
   ·exact ⟨_, _, _, rfl⟩
  clear hrow hb hfr hK hT hX hXb hfin hfp hfe hrow' hT' hfin'
  obtain ⟨sa, sn, sc, rfl⟩ := hfv
  gi_wp2
  refine ⟨by simp, .inl ⟨_, _, rfl, run_takeDeferred hK', ?_⟩⟩
  refine ⟨_, results_tmp rfl _ _ _, .slice sa sn sc, ys, X, rfl, ?_⟩
  exact HP.out
set_option maxRecDepth 100000 in
set_option maxHeartbeats 2000000 in
theorem CollectT (gf : Nat) (lb : Array Value) (T : List Tl) (Fin : (Nat → Prop) → World → Prop) (own rd : Nat → Prop) (w : World) (eg : ∀ args w, (callFunc gf args).run Try.prog w = .ok (.enter gf args) w)
  (hit : IterR Try.prog gf lb (fun y : Td => #[y.val]) T.length (ToldR T) Fin own rd w) (hFin : ∀ X W1 W2 S, Fin X W1 → Fr0 S W1 W2 → (∀ k, own k ∨ X k → ¬ S k) → Fin X W2) (ho : ∀ k, own k → k < w.heap.size) (hr : ∀ k, rd k → k < w.heap.size) (hlen : T.length ≤ 1000000) :
  Calls Try.prog 42 #[.func (.func gf) #[] lb] w fun e w' =>
   ∃ v ys X, e = .returned v ∧ w'.ownsRow w.heap.size 51 2 v T.length (flatTd ys) ∧ TdsOk w' T ys v w.heap.size (fun k => own k ∨ X k) ∧ (∀ g, v.ownBlock = some g → ¬ X g) ∧ (∀ k, X k → w.heap.size ≤ k) ∧ Fin X w' ∧ Fr0 own w w' := by
 have HC := Lib.hid (callsIn_wide.1 (AppendSeqT gf lb T Fin own rd w eg hit hFin ho hr hlen))
 clear hit
 go_enter Try.func42, Try.ntmps42
 go_wp2_with fail
 refine HC.out.mono ?_
 rintro e w1 ⟨v, ys, X, rfl, h1, h2, h3, h4, h5, h6⟩
 go_wp2
 go_ret
 exact ⟨_, ys, X, rfl, h1, h2, h3, h4, h5, h6⟩
end Go.Proofs.Ytmbjfmlicffclaa

/-
  calendar: told, Play.
-/
namespace Go.Proofs.Ytmbjfmlicffclaa
open Go Go.RowKit
attribute [local go_sem ↓] Go.wp_at_zero Go.wp_at_succ
attribute [local go_sem] Oper.semAt_some wide_fn wide_depth wide_fnR wide_depthR

set_option maxRecDepth 100000 in
theorem told_any (s : Value) (T : TypeId) (aa : Option Addr) (m ca : Nat) (w : World) :
  Calls Try.prog 43 #[.iface T s, .slice aa m ca] w fun e w' => ∃ ab sb, e = .returned (.func (.func 73) #[] #[.pointer (some ⟨ab, 0, none⟩), .pointer (some ⟨sb, 0, none⟩)]) ∧ Box w' ab (.slice aa m ca) ∧ Box w' sb (.iface T s) ∧ w.heap.size ≤ ab ∧ w.heap.size ≤ sb ∧ Fr0 none' w w' := by
 obtain ⟨W1, hW1⟩ : ∃ W, (w.alloc (.cells #[.iface T s] 130)).alloc (.cells #[.slice aa m ca] 38) = W := ⟨_, rfl⟩
 have hf : Fr0 none' w W1 := by rw [← hW1]; exact ((Fr0.refl _ _).alloc _).alloc _
 have hb0 : Box (w.alloc (.cells #[.iface T s] 130)) w.heap.size (.iface T s) := Box.new w _ _
 have hb1 : Box W1 w.heap.size (.iface T s) := by rw [← hW1]; exact hb0.fr0 ((Fr0.refl none' _).alloc _) id
 have hb2 := Box.new (w.alloc (.cells #[.iface T s] 130)) (.slice aa m ca) 38
 rw [World.size_alloc, hW1] at hb2
 have HB := Lib.hid hb1
 have HA := Lib.hid hb2
 have HF := Lib.hid hf
 clear hf hb0 hb1 hb2
 go_enter Try.func43, Try.ntmps43
 subst hW1
 go_wp2_with fail
 go_ret
 exact ⟨_, _, rfl, HA.out, HB.out, by omega, by omega, HF.out⟩
theorem results_tmp4 {fn : Func} {t u v x : Tmp} (h : fn.results = #[.tmp t, .tmp u, .tmp v, .tmp x]) (tmps : Array Value) (P : Program) (w : World) :
  (results fn tmps).run P w = .ok (.tuple #[tmps.getD t undef, tmps.getD u undef, tmps.getD v undef, tmps.getD x undef]) w := by
 simp [results, h]
/-- The end of Play. -/
def EndP (L : List Ev) (c : Int) (A : List Ca) (w : World) (e : Ending) (w' : World) : Prop :=
 ∃ v u ys, e = .returned (.tuple #[v, u, .int .i64 (playC L c A).2.2.1, .int .i64 (playC L c A).2.2.2]) ∧ w'.ownsRow w.heap.size 47 5 v (playC L c A).1.length (flatEv (playC L c A).1) ∧ w'.ownsRow w.heap.size 51 2 u (playC L c A).2.1.length (flatTd ys) ∧ TdsOk w' (playC L c A).2.1 ys u w.heap.size (fun k => v.ownBlock = some k) ∧ (∀ g, u.ownBlock = some g → v.ownBlock ≠ some g) ∧ Fr0 none' w w'
theorem EndP.none {L : List Ev} {c : Int} {A : List Ca} {w w' : World} {i f : Int} {e : Ending} (he : e = .returned (.tuple #[.slice none 0 0, .slice none 0 0, .int .i64 i, .int .i64 f])) (h : playC L c A = ([], [], i, f)) (hf : Fr0 none' w w') : EndP L c A w e w' := by
 unfold EndP
 rw [h]
 exact ⟨_, _, [], he, World.ownsRow_nil _ _ _ _, World.ownsRow_nil _ _ _ _, TdsOk.nil _ _ _ _, (fun g hg => by cases hg), hf⟩
theorem playC_wrong {L : List Ev} {c : Int} {A : List Ca} (h : ¬ RightC L c) : playC L c A = ([], [], -1, 120) := by
 unfold playC
 rw [if_neg h]
theorem playC_odd {L : List Ev} {c : Int} {A : List Ca} (h : RightC L c) (ho : 0 ≤ oddC A) : playC L c A = ([], [], oddC A, 121) := by
 unfold playC
 rw [if_pos h, if_pos ho]
theorem playC_right {L : List Ev} {c : Int} {A : List Ca} (h : RightC L c) (ho : ¬ 0 ≤ oddC A) : playC L c A = (stC c.toNat L A, tlC c.toNat L A, -1, 0) := by
 unfold playC
 rw [if_pos h, if_neg ho]
theorem oddC_ge (A : List Ca) : -1 ≤ oddC A := by
 rcases oddC_cases A with ⟨h, _⟩ | ⟨k, h, _⟩ <;> omega
theorem oddC_neg {A : List Ca} (h : ¬ 0 ≤ oddC A) : ∀ a ∈ A, 1 ≤ a.kind ∧ a.kind ≤ 5 := by
 rcases oddC_cases A with ⟨_, h2⟩ | ⟨k, h1, _⟩
 ·exact h2
 ·omega
set_option maxRecDepth 100000 in
set_option maxHeartbeats 2000000 in
theorem Play_any {w : World} {a aa : Option Addr} {n cap m ca : Nat} {c : Int} (L : List Ev) (A : List Ca) (h : EsIn w a L) (hl : L.length = n) (hn : n ≤ 10000) (hcap : n ≤ cap) (hA : CasIn w aa A) (hAl : A.length = m) (hm : m ≤ 100000) (hk : ∀ x ∈ A, 0 ≤ x.kind ∧ x.kind < 256) :
  Calls Try.prog 17 #[.slice a n cap, .int .i64 c, .slice aa m ca] w fun e w' => EndP L c A w e w' := by
 have HR := Lib.hid (CRight_any (c := c) L h hl hn hcap)
 have HO := Lib.hid (fun (W : World) (hW : Fr0 none' w W) => odd_any (cap := ca) A (hA.later hW) hAl hm hk)
 have HC := Lib.hid (fun (W : World) (hW : Fr0 none' w W) => CloneE (cap := cap) L (h.later hW) hl (by omega))
 have HL := Lib.hid h
 have HA := Lib.hid hA
 have Hl := Lib.hid hl
 have HAl := Lib.hid hAl
 have HK := Lib.hid hk
 clear h hl hA hAl hk
 go_enter Try.func17, Try.ntmps17
 go_wp2_with fail
 refine HR.out.mono ?_
 rintro e w1 ⟨b, rfl, hb, hf1⟩
 have F1 := Lib.hid hf1
 have HO1 := Lib.hid (HO.out _ hf1)
 clear HO hf1 HR
 cases b with
 | false =>
  have Hp := Lib.hid (playC_wrong (A := A) (fun h => by simpa using hb.2 h))
  clear hb HO1
  go_wp2_with fail
  try simp only [Exit.inBlock, Exit.then]
  refine bodyPost_ret (results_tmp4 rfl _ _ _) rfl ?_
  exact EndP.none rfl Hp.out F1.out
 | true =>
  have Hrc := Lib.hid (hb.1 rfl)
  clear hb
  obtain ⟨R, hR⟩ : ∃ R, oddC A = R := ⟨_, rfl⟩
  rw [hR] at HO1
  have hR1 : -1 ≤ R := by rw [← hR]; exact oddC_ge A
  by_cases h0 : 0 ≤ R
  ·have Hp := Lib.hid (playC_odd Hrc.out (by rw [hR]; exact h0))
   rw [hR] at Hp
   have d1 : decide (R ≥ 0) = true := decide_eq_true h0
   have d2 : decide (0 ≤ R) = true := decide_eq_true h0
   clear hR h0
   go_wp2_with fail
   refine HO1.out.mono ?_
   rintro e w2 ⟨rfl, hf⟩
   have F2 := Lib.hid (F1.out.trans hf)
   clear hf
   go_wp2_with fail
   try simp only [Exit.inBlock, Exit.then]
   refine bodyPost_ret (results_tmp4 rfl _ _ _) rfl ?_
   exact EndP.none rfl Hp.out F2.out
  ·have Hp := Lib.hid (playC_right Hrc.out (by rw [hR]; exact h0))
   have HK1 := Lib.hid (oddC_neg (by rw [hR]; exact h0))
   obtain rfl : R = -1 := by omega
   clear hR h0 hR1
   go_wp2_with fail
   refine HO1.out.mono ?_
   rintro e w2 ⟨rfl, hf⟩
   have F2 := Lib.hid (F1.out.trans hf)
   clear hf
   go_wp2_with fail
   refine (HC.out _ F2.out).mono ?_
   rintro e w3 ⟨v1, rfl, hrow, hf⟩
   obtain ⟨va, vc, rfl⟩ : ∃ va vc, v1 = .slice va n vc := by
    rcases hrow.2 with ⟨rfl, h0⟩ | ⟨g, cap, cur, rfl, _⟩
    ·exact ⟨none, 0, by rw [h0]⟩
    ·exact ⟨_, cap, rfl⟩
   have F3 := Lib.hid (F2.out.trans hf)
   have HRow := Lib.hid hrow
   have F2s := Lib.hid F2.out.size
   obtain ⟨W4, hW4⟩ : ∃ V, w3.alloc (.cells #[.slice va n vc, .int .i64 c] 90) = V := ⟨_, rfl⟩
   have f4 : Fr0 none' w3 W4 := by rw [← hW4]; exact (Fr0.refl _ _).alloc _
   have b4 : W4.heap[w3.heap.size]? = some (.cells #[.slice va n vc, .int .i64 c] 90 (0, 0)) := by rw [← hW4]; exact World.alloc_heap_new _ _
   have s4 : W4.heap.size = w3.heap.size + 1 := by rw [← hW4]; exact World.size_alloc _ _
   have hc0 : 0 ≤ c ∧ c ≤ 256 := Hrc.out.1
   obtain ⟨N, rfl⟩ : ∃ N : Nat, c = (N : Int) := ⟨c.toNat, by omega⟩
   have hli : LIs W4 w3.heap.size N L (fun k => k = w3.heap.size ∨ (Value.slice va n vc).ownBlock = some k) :=
    ⟨⟨_, b4, by rw [Hl.out]; exact ownsRow_k_mono (ownsRow_fr0 hrow f4 (fun _ _ h => h)) (Nat.zero_le _), fun e => by have := (hrow.lt _ e).2; omega, fun g hg => .inr hg⟩, Hrc.out.good, by omega, .inl rfl, fun k hk => by
     rcases hk with rfl | hk
     ·omega
     ·have := (hrow.lt k hk).2; omega⟩
   have HLI := Lib.hid hli
   have HTO := Lib.hid (told_any (.pointer (some ⟨w3.heap.size, 0, none⟩)) 88 aa m ca W4)
   have F4 := Lib.hid (F3.out.trans f4)
   clear hrow hf f4 b4 hli
   go_wp2_with fail
   refine HTO.out.mono ?_
   rintro e w5 ⟨ab, sb, rfl, hab, hsb, hab0, hsb0, hf5⟩
   have F5 := Lib.hid (F4.out.trans hf5)
   have hs5 := hf5.size
   obtain ⟨ft, hft⟩ : ∃ ft : Nat → Prop, ft = fun k => k = w3.heap.size ∨ (Value.slice va n vc).ownBlock = some k := ⟨_, rfl⟩
   have hli5 := HLI.out.later hf5
   rw [← hft] at hli5
   have hft1 : ∀ k, ft k → w.heap.size ≤ k ∧ k < w3.heap.size + 1 := fun k hk => by
    rw [hft] at hk
    have := F2s.out
    rcases hk with rfl | hk
    ·have := F3.out.size; omega
    ·have := HRow.out.lt k hk; omega
   have HCo := Lib.hid (CollectT 73 #[.pointer (some ⟨ab, 0, none⟩), .pointer (some ⟨sb, 0, none⟩)] (tlC N L A) (ListF w3.heap.size N (stC N L A) ft) ft (fun k => k = ab ∨ k = sb ∨ (∃ o s, aa = some ⟨k, o, s⟩ ∧ A ≠ []) ∨ ft k) w5 (fun _ _ => rfl)
    (by rw [tlC_length, HAl.out]; exact told_list hli5 (HA.out.later F5.out) HAl.out hm HK1.out hab hsb (fun h0 g o s e h => by have := (HA.out.lt h0 g o s e); have := hft1 g h; omega) (fun h => by have := hft1 _ h; omega) (fun h => by have := hft1 _ h; omega))
    (fun X W1 W2 S hF hf hS => by obtain ⟨f', h1, h2⟩ := hF; exact ⟨f', h1.fr0 hf (fun k hk => hS k (h2 k hk)), h2⟩)
    (fun k hk => hli5.lt k hk)
    (fun k hk => by
     rcases hk with rfl | rfl | ⟨o, s, e, h0⟩ | hk
     ·exact hab.lt
     ·exact hsb.lt
     ·have := HA.out.lt h0 k o s e; have := F5.out.size; omega
     ·exact hli5.lt k hk)
    (by rw [tlC_length, HAl.out]; omega))
   have HFT := Lib.hid hft1
   have Hs5 := Lib.hid (show w3.heap.size + 1 ≤ w5.heap.size by omega)
   clear hab hsb hab0 hsb0 hf5 hs5 hft hli5 hft1 HLI
   go_wp2_with fail
   refine HCo.out.mono ?_
   rintro e w6 ⟨u, ys, X, rfl, hu, hT, huX, hX0, ⟨ft', hl6, hft'⟩, hf6⟩
   obtain ⟨v6, h1, h2, h3, h4⟩ := hl6.row
   obtain ⟨va6, vc6, hv6, _, _⟩ := EsIn.of_own h2
   obtain ⟨vn6, hvn6⟩ : ∃ k, (stC N L A).length = k := ⟨_, rfl⟩
   rw [hvn6] at hv6
   subst hv6
   have hul : ∃ a b c, u = .slice a b c := by
    rcases hu.2 with ⟨rfl, _⟩ | ⟨g, cap, cur, rfl, _⟩
    ·exact ⟨_, _, _, rfl⟩
    ·exact ⟨_, _, _, rfl⟩
   obtain ⟨ua, un, uc, rfl⟩ := hul
   have c0 := cells_in h1 0
   simp at c0
   have hs6 := F5.out.size
   have hblk : ∀ g, (Value.slice va6 vn6 vc6).ownBlock = some g → (ft g ∨ X g) ∧ w.heap.size ≤ g := fun g hg => by
    have := hft' g (h4 g hg)
    rcases this with h | h
    ·exact ⟨.inl h, (HFT.out g h).1⟩
    ·exact ⟨.inr h, by have := hX0 g h; omega⟩
   have HE := Lib.hid (show EndP L N A w (.returned (.tuple #[.slice va6 vn6 vc6, .slice ua un uc, .int .i64 (-1), .int .i64 0])) w6 from by
    unfold EndP
    rw [Hp.out, Int.toNat_natCast]
    refine ⟨_, _, ys, rfl, ownsRow_k_raise h2 (fun g hg => (hblk g hg).2), ownsRow_k_mono hu (by omega), hT.mono (fun g _ hg => (hblk g hg).1) (fun _ _ _ h => h) (by omega), fun g hg e => ?_, F5.out.trans' hf6 (fun k hk h => by have := (HFT.out k h).1; omega)⟩
    have hg5 := (hu.lt g hg).1
    rcases (hblk g e).1 with h | h
    ·have := HFT.out g h; have := Hs5.out; omega
    ·exact huX g hg h)
   clear hu hT huX hX0 hl6 hft' hf6 h1 h2 h3 h4 hvn6 hs6 hblk
   go_wp2_with fail
   try simp only [Exit.inBlock, Exit.then]
   refine bodyPost_ret (results_tmp4 rfl _ _ _) rfl ?_
   exact HE.out
end Go.Proofs.Ytmbjfmlicffclaa

/-
  calendar: Count.
-/
namespace Go.Proofs.Ytmbjfmlicffclaa
open Go Go.RowKit
attribute [local go_sem ↓] Go.wp_at_zero Go.wp_at_succ
attribute [local go_sem] Oper.semAt_some wide_fn wide_depth wide_fnR wide_depthR

/-- How many come from a time to another one. -/
def btwE (f t : Int) (L : List Ev) : Nat := L.countP (fun x => decide (f ≤ x.key.time) && decide (x.key.time < t))
def countC (L : List Ev) (f t : Int) : Int × Int := if AscE L then (((btwE f t L : Nat) : Int), 0) else (0, 110)
theorem btwE_snoc {f t : Int} {L : List Ev} {k : Nat} {x : Ev} (h : L[k]? = some x) : btwE f t (L.take (k + 1)) = btwE f t (L.take k) + (if f ≤ x.key.time ∧ x.key.time < t then 1 else 0) := by
 unfold btwE
 rw [List.take_add_one, h, List.countP_append]
 by_cases h1 : f ≤ x.key.time <;> by_cases h2 : x.key.time < t <;> simp [h1, h2]
theorem btwE_le (f t : Int) (L : List Ev) : btwE f t L ≤ L.length := List.countP_le_length
set_option maxRecDepth 100000 in
set_option maxHeartbeats 2000000 in
theorem Count_any {w : World} {a : Option Addr} {n cap : Nat} {f t : Int} (L : List Ev) (h : EsIn w a L) (hl : L.length = n) (hn : n ≤ 10000) :
  Calls Try.prog 13 #[.slice a n cap, .int .i64 f, .int .i64 t] w fun e w' => e = .returned (.tuple #[.int .i64 (countC L f t).1, .int .i64 (countC L f t).2]) ∧ Fr0 none' w w' := by
 have HS := Lib.hid (Sorted_any (cap := cap) L h hl hn)
 have H := Lib.hid h
 have Hl := Lib.hid hl
 clear h hl
 by_cases ho : AscE L
 ·rw [show decide (AscE L) = true from decide_eq_true ho] at HS
  have hR : countC L f t = (((btwE f t L : Nat) : Int), 0) := by unfold countC; rw [if_pos ho]
  rw [hR]
  clear ho hR
  simp only
  obtain ⟨R, hR⟩ : ∃ R, btwE f t L = R := ⟨_, rfl⟩
  rw [hR]
  have HR := Lib.hid hR
  clear hR
  go_enter Try.func13, Try.ntmps13
  go_wp2_with fail
  refine HS.out.mono ?_
  rintro e w1 ⟨rfl, hf⟩
  have F1 := Lib.hid hf
  have H1 := Lib.hid (H.out.later hf)
  clear hf
  go_wp2_with fail
  go_loopw [8, 16] (fun q i wr => ∃ k : Nat, k ≤ n ∧ q = .int .i64 (btwE f t (L.take k) : Nat) ∧ i = .int .i64 k ∧ Hid (Fr0 none' w wr)) (fun _ i _ => n - (Go.RowKit.intOf i).toNat)
  case atStart => exact ⟨0, Nat.zero_le _, by simp [btwE], rfl, F1⟩
  case round =>
   obtain ⟨k, hk, rfl, rfl, hfr⟩ := hrel
   have hql := btwE_le f t (L.take k)
   rw [List.length_take] at hql
   have HSN : ∀ x, L[k]? = some x → btwE f t (L.take (k + 1)) = btwE f t (L.take k) + (if f ≤ x.key.time ∧ x.key.time < t then 1 else 0) := fun x hx => btwE_snoc hx
   obtain ⟨q, hq⟩ : ∃ q, btwE f t (L.take k) = q := ⟨_, rfl⟩
   simp only [hq] at hql HSN ⊢
   have Hq := Lib.hid hq
   clear hq
   by_cases hlt : k < n
   ·obtain ⟨x, hx⟩ : ∃ x, L[k]? = some x := ⟨_, List.getElem?_eq_getElem (by rw [Hl.out]; exact hlt)⟩
    obtain ⟨g, o, rfl, hxc⟩ := (H.out.later hfr.out) k x hx
    obtain ⟨x0, x1, x2, x3, x4⟩ := hxc
    have k1 : (0 : Int) ≤ (k : Int) := by omega
    have k2 : (k : Int) < (n : Int) := by omega
    have hst := HSN x hx
    have HFW := Lib.hid (hfr.out.trans ((Fr0.refl none' wr).alloc (.cells #[.int .i64 x.key.time, .int .i64 x.key.source, .int .i64 x.key.seq, .int .i64 x.to, .int .i64 x.value] 47)))
    clear HSN hx
    by_cases g1 : f ≤ x.key.time
    ·have d1 : decide (f ≤ x.key.time) = true := decide_eq_true g1
     have d1' : decide (x.key.time ≥ f) = true := decide_eq_true g1
     by_cases g2 : x.key.time < t
     ·have d2 : decide (x.key.time < t) = true := decide_eq_true g2
      rw [if_pos ⟨g1, g2⟩] at hst
      have Hst := Lib.hid hst
      clear hst g1 g2
      go_wp2_with fail
      go_roundw
      case rel => exact ⟨k + 1, by omega, by rw [Hst.out]; go_num, by go_num, HFW⟩
      case measure => simp [Go.RowKit.intOf]; omega
     ·have d2 : decide (x.key.time < t) = false := decide_eq_false g2
      rw [if_neg (fun h => g2 h.2), Nat.add_zero] at hst
      have Hst := Lib.hid hst
      clear hst g1 g2
      go_wp2_with fail
      go_roundw
      case rel => exact ⟨k + 1, by omega, by rw [Hst.out, Nat.add_zero], by go_num, HFW⟩
      case measure => simp [Go.RowKit.intOf]; omega
    ·have d1 : decide (f ≤ x.key.time) = false := decide_eq_false g1
     have d1' : decide (x.key.time ≥ f) = false := decide_eq_false g1
     rw [if_neg (fun h => g1 h.1), Nat.add_zero] at hst
     have Hst := Lib.hid hst
     clear hst g1
     go_wp2_with fail
     go_roundw
     case rel => exact ⟨k + 1, by omega, by rw [Hst.out, Nat.add_zero], by go_num, HFW⟩
     case measure => simp [Go.RowKit.intOf]; omega
   ·have hres : (q : Int) = (R : Int) := by
     rw [← HR.out, ← Hq.out, List.take_of_length_le (by rw [Hl.out]; omega)]
    have Hres := Lib.hid hres
    clear hres HSN
    go_wp2_with fail
    go_ret2
    exact ⟨by simp [Hres.out], hfr.out⟩
 ·rw [show decide (AscE L) = false from decide_eq_false ho] at HS
  have hR : countC L f t = (0, 110) := by unfold countC; rw [if_neg ho]
  rw [hR]
  clear ho hR
  go_enter Try.func13, Try.ntmps13
  go_wp2_with fail
  refine HS.out.mono ?_
  rintro e w1 ⟨rfl, hf⟩
  have F1 := Lib.hid hf
  clear hf
  go_wp2_with fail
  go_ret2
  exact ⟨rfl, F1.out⟩
end Go.Proofs.Ytmbjfmlicffclaa

/-
  calendar: Do.
-/
namespace Go.Proofs.Ytmbjfmlicffclaa
open Go Go.RowKit
attribute [local go_sem ↓] Go.wp_at_zero Go.wp_at_succ
attribute [local go_sem] Oper.semAt_some wide_fn wide_depth wide_fnR wide_depthR

/-! ### Rows of what was told -/
def TdAt (w : World) (g o : Nat) (y : Td) : Prop := w.cell? ⟨g, o, none⟩ = some (.int .i64 y.err) ∧ w.cell? ⟨g, o + 1, none⟩ = some (.slice y.sa y.sn y.sc)
def TdsIn (w : World) (a : Option Addr) (L : List Td) : Prop := ∀ i x, L[i]? = some x → ∃ g o, a = some ⟨g, o, none⟩ ∧ TdAt w g (o + i * 2) x
theorem TdAt.fr0 {S : Nat → Prop} {w w' : World} {g o : Nat} {x : Td} (h : TdAt w g o x) (hf : Fr0 S w w') (hS : ¬ S g) : TdAt w' g o x := by
 have hl := World.block_lt_of_cell? _ _ h.1
 exact ⟨(hf.cell (p := ⟨g, o, none⟩) hl hS).trans h.1, (hf.cell (p := ⟨g, o + 1, none⟩) hl hS).trans h.2⟩
theorem TdsIn.fr0 {S : Nat → Prop} {w w' : World} {a : Option Addr} {L : List Td} (h : TdsIn w a L) (hf : Fr0 S w w') (hS : ∀ g o s, a = some ⟨g, o, s⟩ → ¬ S g) : TdsIn w' a L := fun i x hx => by
 obtain ⟨g, o, rfl, hc⟩ := h i x hx
 exact ⟨g, o, rfl, hc.fr0 hf (hS g o none rfl)⟩
theorem TdsIn.later {w w' : World} {a : Option Addr} {L : List Td} (h : TdsIn w a L) (hf : Fr0 none' w w') : TdsIn w' a L := h.fr0 hf (fun _ _ _ _ h => h)
theorem td_len : ∀ x : Td, x.cells.length = 2 := fun _ => rfl
theorem flatTd_length (L : List Td) : (flatTd L).length = L.length * 2 := by
 induction L with
 | nil => rfl
 | cons x r ih =>
  have e : flatTd (x :: r) = x.cells ++ flatTd r := rfl
  rw [e, List.length_append, ih, td_len, List.length_cons]; omega
theorem TdsIn.of_flat {w : World} {g o : Nat} {L : List Td} (h : ∀ j u, (flatTd L)[j]? = some u → w.cell? ⟨g, o + j, none⟩ = some u) : TdsIn w (some ⟨g, o, none⟩) L := fun i x hx => by
 refine ⟨g, o, rfl, ?_, ?_⟩
 ·exact h (i * 2) _ (flat_some td_len hx (j := 0) (by omega) rfl)
 ·rw [Nat.add_assoc]; exact h (i * 2 + 1) _ (flat_some td_len hx (j := 1) (by omega) rfl)
theorem TdsIn.of_own {w : World} {base : Nat} {v : Value} {n : Nat} {L : List Td} (h : w.ownsRow base 51 2 v n (flatTd L)) : ∃ a cap, v = .slice a n cap ∧ L.length = n ∧ TdsIn w a L := by
 have hl : L.length = n := by have := h.1; rw [flatTd_length] at this; omega
 rcases h.2 with ⟨rfl, h0⟩ | ⟨g, cap, cur, rfl, hb, hg, hn', hcm, hs, ht⟩
 ·have : L = [] := List.eq_nil_of_length_eq_zero (by omega)
  subst this
  exact ⟨none, 0, by rw [h0], hl, fun i x h => by simp at h⟩
 ·exact ⟨_, cap, rfl, hl, TdsIn.of_flat (fun j u hj => by
   rw [Nat.zero_add, cells_in hg, ← Array.getElem?_toList]
   rw [← ht, List.getElem?_take] at hj
   split at hj
   ·exact hj
   ·cases hj)⟩
/-- What Do tells. -/
noncomputable def doT (L : List Ev) (c : Int) (x : Ca) : Tl := ((playC L c [x]).2.1).headD ⟨0, []⟩
/-- The end of Do. -/
def EndD (L : List Ev) (c : Int) (x : Ca) (w : World) (e : Ending) (w' : World) : Prop :=
 ∃ (v : Value) (y : Td), e = .returned (.tuple #[v, y.val, .int .i64 (playC L c [x]).2.2.2]) ∧ w'.ownsRow w.heap.size 47 5 v (playC L c [x]).1.length (flatEv (playC L c [x]).1) ∧ y.tl = doT L c x ∧ w'.ownsRow w.heap.size 47 5 y.v y.evs.length (flatEv y.evs) ∧ (∀ g, v.ownBlock = some g → y.v.ownBlock ≠ some g) ∧ Fr0 none' w w'
theorem playC_none {L : List Ev} {c : Int} {A : List Ca} (h : (playC L c A).2.2.2 ≠ 0) : (playC L c A).1 = [] ∧ (playC L c A).2.1 = [] := by
 unfold playC at h ⊢
 split
 ·split
  ·exact ⟨rfl, rfl⟩
  ·rename_i h1 h2
   rw [if_pos h1, if_neg h2] at h
   exact absurd rfl h
 ·exact ⟨rfl, rfl⟩
theorem playC_told {L : List Ev} {c : Int} {A : List Ca} (h : (playC L c A).2.2.2 = 0) : RightC L c ∧ (∀ a ∈ A, 1 ≤ a.kind ∧ a.kind ≤ 5) ∧ playC L c A = (stC c.toNat L A, tlC c.toNat L A, -1, 0) := by
 by_cases h1 : RightC L c
 ·by_cases h2 : 0 ≤ oddC A
  ·rw [playC_odd h1 h2] at h
   cases h
  ·exact ⟨h1, oddC_neg h2, playC_right h1 h2⟩
 ·rw [playC_wrong h1] at h
  cases h
set_option maxRecDepth 100000 in
set_option maxHeartbeats 2000000 in
theorem Do_any {w : World} {a : Option Addr} {n cap : Nat} {c : Int} (L : List Ev) (x : Ca) (h : EsIn w a L) (hl : L.length = n) (hn : n ≤ 10000) (hcap : n ≤ cap) (hk : 0 ≤ x.kind ∧ x.kind < 256) :
  Calls Try.prog 29 #[.slice a n cap, .int .i64 c, actCV x] w fun e w' => EndD L c x w e w' := by
 obtain ⟨W3, hW3⟩ : ∃ V, ((w.alloc (.cells #[.int .u8 x.kind, .int .i64 x.x.key.time, .int .i64 x.x.key.source, .int .i64 x.x.key.seq, .int .i64 x.x.to, .int .i64 x.x.value, .int .i64 x.time] 49)).alloc (.cells #[.int .i64 0, .slice none 0 0] 51)).alloc (.cells #[.int .u8 x.kind, .int .i64 x.x.key.time, .int .i64 x.x.key.source, .int .i64 x.x.key.seq, .int .i64 x.x.to, .int .i64 x.x.value, .int .i64 x.time] 49) = V := ⟨_, rfl⟩
 have f3 : Fr0 none' w W3 := by rw [← hW3]; exact (((Fr0.refl _ _).alloc _).alloc _).alloc _
 have b3 : W3.heap[w.heap.size + 1]? = some (.cells #[.int .i64 0, .slice none 0 0] 51 (0, 0)) := by
  have h1 := World.alloc_heap_new (w.alloc (.cells #[.int .u8 x.kind, .int .i64 x.x.key.time, .int .i64 x.x.key.source, .int .i64 x.x.key.seq, .int .i64 x.x.to, .int .i64 x.x.value, .int .i64 x.time] 49)) (.cells #[.int .i64 0, .slice none 0 0] 51)
  rw [World.size_alloc] at h1
  rw [← hW3]
  exact (((Fr0.refl none' _).alloc _).block (w.heap.size + 1) (by rw [World.size_alloc, World.size_alloc]; omega) id).trans h1
 have a3 : W3.heap[w.heap.size + 1 + 1]? = some (.cells #[.int .u8 x.kind, .int .i64 x.x.key.time, .int .i64 x.x.key.source, .int .i64 x.x.key.seq, .int .i64 x.x.to, .int .i64 x.x.value, .int .i64 x.time] 49 (0, 0)) := by
  have := World.alloc_heap_new ((w.alloc (.cells #[.int .u8 x.kind, .int .i64 x.x.key.time, .int .i64 x.x.key.source, .int .i64 x.x.key.seq, .int .i64 x.x.to, .int .i64 x.x.value, .int .i64 x.time] 49)).alloc (.cells #[.int .i64 0, .slice none 0 0] 51)) (.cells #[.int .u8 x.kind, .int .i64 x.x.key.time, .int .i64 x.x.key.source, .int .i64 x.x.key.seq, .int .i64 x.x.to, .int .i64 x.x.value, .int .i64 x.time] 49)
  rw [hW3, World.size_alloc, World.size_alloc] at this
  exact this
 have s3 : W3.heap.size = w.heap.size + 1 + 1 + 1 := by rw [← hW3, World.size_alloc, World.size_alloc, World.size_alloc]
 have hcas : CasIn W3 (some ⟨w.heap.size + 1 + 1, 0, none⟩) [x] := fun i y hy => by
  cases i with
  | zero =>
   obtain rfl : x = y := by simpa using hy
   exact ⟨_, _, rfl, cells_in a3 0, cells_in a3 1, cells_in a3 2, cells_in a3 3, cells_in a3 4, cells_in a3 5, cells_in a3 6⟩
  | succ i => simp at hy
 have HP := Lib.hid (Play_any (c := c) (m := 1) (ca := 1) L [x] (h.later f3) hl hn hcap hcas rfl (by omega) (by simpa using hk))
 have B3 := Lib.hid b3
 have S3 := Lib.hid s3
 have F3 := Lib.hid f3
 clear h hl hk f3 b3 a3 s3 hcas
 unfold actCV
 go_enter Try.func29, Try.ntmps29
 subst hW3
 go_wp2_with fail
 refine HP.out.mono ?_
 obtain ⟨W3, hW3⟩ : ∃ V, ((w.alloc (.cells #[.int .u8 x.kind, .int .i64 x.x.key.time, .int .i64 x.x.key.source, .int .i64 x.x.key.seq, .int .i64 x.x.to, .int .i64 x.x.value, .int .i64 x.time] 49)).alloc (.cells #[.int .i64 0, .slice none 0 0] 51)).alloc (.cells #[.int .u8 x.kind, .int .i64 x.x.key.time, .int .i64 x.x.key.source, .int .i64 x.x.key.seq, .int .i64 x.x.to, .int .i64 x.x.value, .int .i64 x.time] 49) = V := ⟨_, rfl⟩
 rw [hW3] at B3 S3 F3 ⊢
 clear hW3 HP
 rintro e w1 ⟨v, u, ys, rfl, hv, hu, hT, hd, hf⟩
 have b1 := (hf.block (w.heap.size + 1) (by rw [S3.out]; omega) id).trans B3.out
 obtain ⟨va, vc, hve, _, _⟩ := EsIn.of_own hv
 obtain ⟨ua, uc, hue, hul, hui⟩ := TdsIn.of_own hu
 obtain ⟨f, hf0⟩ : ∃ f, (playC L c [x]).2.2.2 = f := ⟨_, rfl⟩
 obtain ⟨i, hi0⟩ : ∃ i, (playC L c [x]).2.2.1 = i := ⟨_, rfl⟩
 obtain ⟨vn, hvn⟩ : ∃ i, (playC L c [x]).1.length = i := ⟨_, rfl⟩
 rw [hf0, hi0]
 rw [hvn] at hve
 by_cases h0 : f = 0
 ·rw [h0] at hf0 ⊢
  obtain ⟨hrc, hkk, hp⟩ := playC_told hf0
  rw [hp] at hul
  obtain ⟨y, rfl⟩ : ∃ y, ys = [y] := by
   cases ys with
   | nil => simp [tlC] at hul
   | cons y r =>
    cases r with
    | nil => exact ⟨y, rfl⟩
    | cons z r => simp [tlC] at hul
  obtain ⟨g, o, rfl, t0, t1⟩ := hui 0 y rfl
  have hty : y.tl = doT L c x := by
   have := hT.tl
   rw [hp] at this
   unfold doT
   rw [hp]
   simp [tlC] at this ⊢
   exact this
  have hyr := hT.row y (by simp)
  have hyo := hT.out y (by simp)
  subst hve
  have hun : (playC L c [x]).2.1.length = 1 := by rw [hp]; simp [tlC_length]
  rw [hun] at hue
  subst hue
  rw [Nat.zero_mul, Nat.add_zero] at t0 t1
  have hgt : g ≠ w.heap.size + 1 := fun e => by
   have := (hu.lt g rfl).1
   have := S3.out; omega
  have HZ := Lib.hid (fun (W' : World) (hfz : Fr0 (fun k => k = w.heap.size + 1) w1 W') => (⟨(hfz.cell (p := ⟨g, o, none⟩) (World.block_lt_of_cell? _ _ t0) hgt).trans t0, (hfz.cell (p := ⟨g, o + 1, none⟩) (World.block_lt_of_cell? _ _ t1) hgt).trans t1⟩ : W'.cell? ⟨g, o, none⟩ = some (.int .i64 y.err) ∧ W'.cell? ⟨g, o + 1, none⟩ = some (.slice y.sa y.sn y.sc)))
  have B1 := Lib.hid b1
  have HV := Lib.hid hv
  have HY := Lib.hid hyr
  have HYO := Lib.hid hyo
  have HTY := Lib.hid hty
  have HD := Lib.hid hd
  have HF := Lib.hid hf
  have HF0 := Lib.hid hf0
  clear b1 hv hyr hyo hty hd hf hu hT hui hul t0 t1 hf0 h0 hkk hrc hgt
  go_wp2_with fail
  refine wp_region_held_drew (S := fun W' => Fr0 (fun k => k = w.heap.size + 1) w1 W') (by kernel_rfl) ((Fr0.refl _ w1).drew) (fun hHeld => ?_)
  refine tkn (i := 0) (v := .slice va vn vc) (fun W' hSW => ?_) ?_
  ·first | (go_simp; done) | exact rfl | (go_simp; rfl) | (go_simp; omega)
  try simp only [pUt, pUn, sEt, sEz, sEs]
  refine tkn (i := 1) (v := .slice (some ⟨g, o, none⟩) 1 uc) (fun W' hSW => ?_) ?_
  ·first | (go_simp; done) | exact rfl | (go_simp; rfl) | (go_simp; omega)
  try simp only [pUt, pUn, sEt, sEz, sEs]
  refine tkn (i := 2) (v := .pointer (some ⟨g, o, none⟩)) (fun W' hSW => ?_) ?_
  ·first | (go_simp; done) | exact rfl | (go_simp; rfl) | (go_simp; omega)
  try simp only [pUt, pUn, sEt, sEz, sEs]
  refine tkn (i := 3) (v := .agg #[.int .i64 y.err, .slice y.sa y.sn y.sc]) (fun W' hSW => ?_) ?_
  ·obtain ⟨t0, t1⟩ := HZ.out W' hSW
   first | (go_simp; done) | exact rfl | (go_simp; rfl) | (go_simp; omega)
  try simp only [pUt, pUn, sEt, sEz, sEs]
  refine tkn (i := 4) (v := .slice va vn vc) (fun W' hSW => ?_) ?_
  ·first | (go_simp; done) | exact rfl | (go_simp; rfl) | (go_simp; omega)
  try simp only [pUt, pUn, sEt, sEz, sEs]
  have b2 := ((Fr0.refl none' w1).drew.block (w.heap.size + 1) (Array.getElem?_eq_some_iff.1 B1.out).1 id).trans B1.out
  have th0 := thaw_in b2 0
  have th1 := thaw_in b2 1
  have c0 := cells_in B1.out 0
  have c1 := cells_in B1.out 1
  simp at c0 c1
  have u0 := thaw_in B1.out 0
  have u1 := thaw_in B1.out 1
  clear b2
  refine take_call (i := 5) rfl (by kernel_rfl) (by kernel_rfl) (fun K hK => ?_)
  go_simp
  have e5 : ((w1.setCell ⟨w.heap.size + 1, 0, none⟩ (.int .i64 y.err)).setCell ⟨w.heap.size + 1, 1, none⟩ (.slice y.sa y.sn y.sc)).heap[w.heap.size + 1]? = some (.cells #[.int .i64 y.err, .slice y.sa y.sn y.sc] 51 (0, 0)) := heap_set_cell (heap_set_cell B1.out _) _
  have f5 : Fr0 (fun k => k = w.heap.size + 1) w1 ((w1.setCell ⟨w.heap.size + 1, 0, none⟩ (.int .i64 y.err)).setCell ⟨w.heap.size + 1, 1, none⟩ (.slice y.sa y.sn y.sc)) := ((Fr0.refl (fun k => k = w.heap.size + 1) w1).setCell (fun _ => rfl) _).setCell (fun _ => rfl) _
  have e6 := ((Fr0.refl none' ((w1.setCell ⟨w.heap.size + 1, 0, none⟩ (.int .i64 y.err)).setCell ⟨w.heap.size + 1, 1, none⟩ (.slice y.sa y.sn y.sc))).drew.block (w.heap.size + 1) (Array.getElem?_eq_some_iff.1 e5).1 id).trans e5
  have F6 := Lib.hid f5.drew
  have E6 := Lib.hid e6
  clear e5 f5 e6 c0 c1 th0 th1 u0 u1
  refine hK.out _ _ F6.out (fun hHeld => ?_)
  clear hK K
  try simp only [pUt, pUn, sEt, sEz, sEs]
  refine tkn (i := 6) (v := .int .i64 0) (fun W' hSW => ?_) ?_
  ·first | (go_simp; done) | exact rfl | (go_simp; rfl) | (go_simp; omega)
  try simp only [pUt, pUn, sEt, sEz, sEs]
  refine wpAnyH_done (by kernel_rfl) ?_ _
  clear hHeld
  generalize ((w1.setCell ⟨w.heap.size + 1, 0, none⟩ (.int .i64 y.err)).setCell ⟨w.heap.size + 1, 1, none⟩ (.slice y.sa y.sn y.sc)).drew = VV at F6 E6 ⊢
  go_wp2_with fail
  have y0 := cells_in E6.out 0
  have y1 := cells_in E6.out 1
  simp at y0 y1
  have hs := F3.out.size
  have hsw := S3.out
  refine bodyPost_ret (v := .tuple #[.slice va vn vc, y.val, .int .i64 0]) (by simp [results, Try.results29, go_sem, y0, y1, Td.val]) rfl ⟨_, y, by rw [HF0.out], ?_, HTY.out, ?_, fun g hg e => (HYO.out g e).1 hg, (F3.out.trans HF.out).trans' F6.out (fun k hk h => by have h : k = w.heap.size + 1 := h; omega)⟩
  ·exact ownsRow_k_mono (ownsRow_fr0 HV.out F6.out (fun g hg h => by have := (HV.out.lt g hg).1; have h : g = w.heap.size + 1 := h; omega)) (by omega)
  ·exact ownsRow_k_raise (ownsRow_fr0 HY.out F6.out (fun g hg h => by have := (HYO.out g hg).2.2; have h : g = w.heap.size + 1 := h; omega)) (fun g hg => by have := (HYO.out g hg).2.2; omega)
 ·obtain ⟨hn1, hn2⟩ := playC_none (by rw [hf0]; exact h0)
  obtain ⟨un, hun⟩ : ∃ k, (playC L c [x]).2.1.length = k := ⟨_, rfl⟩
  rw [hun] at hue
  subst hve
  subst hue
  have B1 := Lib.hid b1
  have HF := Lib.hid hf
  have HF0 := Lib.hid hf0
  have HN1 := Lib.hid hn1
  have HN2 := Lib.hid hn2
  have HV := Lib.hid hv
  have d1 : (f == 0) = false := beq_eq_false_iff_ne.2 h0
  have c0 := cells_in B1.out 0
  have c1 := cells_in B1.out 1
  simp at c0 c1
  have u0 := thaw_in B1.out 0
  have u1 := thaw_in B1.out 1
  clear b1 hv hd hf hu hT hui hul hf0 h0 hun hvn hi0 hn1 hn2
  go_wp2_with fail
  have e5 : ((w1.setCell ⟨w.heap.size + 1, 0, none⟩ (.int .i64 0)).setCell ⟨w.heap.size + 1, 1, none⟩ (.slice none 0 0)).heap[w.heap.size + 1]? = some (.cells #[.int .i64 0, .slice none 0 0] 51 (0, 0)) := heap_set_cell (heap_set_cell B1.out _) _
  have f5 : Fr0 (fun k => k = w.heap.size + 1) w1 ((w1.setCell ⟨w.heap.size + 1, 0, none⟩ (.int .i64 0)).setCell ⟨w.heap.size + 1, 1, none⟩ (.slice none 0 0)) := ((Fr0.refl (fun k => k = w.heap.size + 1) w1).setCell (fun _ => rfl) _).setCell (fun _ => rfl) _
  generalize ((w1.setCell ⟨w.heap.size + 1, 0, none⟩ (.int .i64 0)).setCell ⟨w.heap.size + 1, 1, none⟩ (.slice none 0 0)) = VV at e5 f5 ⊢
  have y0 := cells_in e5 0
  have y1 := cells_in e5 1
  simp at y0 y1
  have hs := F3.out.size
  have hsw := S3.out
  refine bodyPost_ret (v := .tuple #[.slice none 0 0, .agg #[.int .i64 0, .slice none 0 0], .int .i64 f]) (by simp [results, Try.results29, go_sem, y0, y1]) rfl ⟨_, ⟨0, none, 0, 0, []⟩, by rw [HF0.out]; rfl, ?_, by unfold doT; rw [HN2.out]; rfl, World.ownsRow_nil _ _ _ _, (fun g hg e => by cases hg), (F3.out.trans HF.out).trans' f5 (fun k hk h => by have h : k = w.heap.size + 1 := h; omega)⟩
  rw [HN1.out]
  exact World.ownsRow_nil _ _ _ _
end Go.Proofs.Ytmbjfmlicffclaa

/-
  slices.Sort and slices.Compact at a row of ints.
-/
namespace Go.Proofs.Ytmbjfmlicffclaa
open Go Go.RowKit Go.Sort

theorem fr_putR {enc : Int → Value} {w : World} {g q : Nat} {d : Array Int} : Fr0 (fun k => k = g) w (putRow enc (Sort.ahead w q) g 0 d) := by
 refine ⟨rfl, rfl, rfl, by simp [putRow, mapBlock, Sort.ahead], fun k hk hs => ?_⟩
 simp [putRow, mapBlock, Sort.ahead, Array.getElem?_modify, show g ≠ k from fun e => hs e.symm]
theorem compact_row {w : World} {base g cap n : Nat} (L : List Int) (h : w.ownsRow base 3 1 (.slice (some ⟨g, 0, none⟩) n cap) n (L.map (Value.int .i64))) (hn : n ≤ 1000000) :
  Calls Try.prog 36 #[.slice (some ⟨g, 0, none⟩) n cap] w fun e w' => e = .returned (.slice (some ⟨g, 0, none⟩) (Lib.compact L).length cap) ∧ w'.ownsRow base 3 1 (.slice (some ⟨g, 0, none⟩) (Lib.compact L).length cap) (Lib.compact L).length ((Lib.compact L).map (Value.int .i64)) ∧ Fr0 (fun k => k = g) w w' := by
 obtain ⟨g', cap', hv, _, hlt, hcap, _, hl, hH⟩ := Lib.holds_of_ownsRow h (by intro e; cases e)
 injection hv with h1 _ h3
 injection h1 with h1
 injection h1 with h1
 subst h1
 subst h3
 have hc := Try.slices_Compact_int g 0 cap L w hH (by omega) (by omega)
 rw [hl] at hc
 refine hc.mono ?_
 rintro e w' ⟨rfl, q, rfl⟩
 have hle : (Lib.compact L).length ≤ n := by
  unfold Lib.compact Lib.compactUpTo
  rw [List.length_map]
  refine Nat.le_trans (List.length_filter_le _ _) ?_
  rw [List.length_range, hl]
  exact Nat.le_refl _
 have hp := Lib.ownsRow_putRow (q := q) (ys := Lib.compact L ++ List.replicate (n - (Lib.compact L).length) 0) h (by rw [List.length_append, List.length_replicate]; omega) hle
 rw [List.take_left' rfl] at hp
 exact ⟨rfl, hp, fr_putR⟩
end Go.Proofs.Ytmbjfmlicffclaa

/-
  calendar: Times.
-/
namespace Go.Proofs.Ytmbjfmlicffclaa
open Go Go.RowKit
attribute [local go_sem ↓] Go.wp_at_zero Go.wp_at_succ
attribute [local go_sem] Oper.semAt_some wide_fn wide_depth wide_fnR wide_depthR

theorem info_intC : (Try.prog.info? 3).map (fun i => (i.zero, i.size, i.bytes)) = some (some (.int .i64 0), 1, 8) := by kernel_rfl
def timesE (L : List Ev) : List Int := L.map (·.key.time)
/-- The times, each once. -/
def timesC (L : List Ev) : List Int := Lib.compact (timesE L)
theorem timesE_snoc {L : List Ev} {k : Nat} {x : Ev} (h : L[k]? = some x) : (timesE (L.take (k + 1))).map (Value.int .i64) = (timesE (L.take k)).map (Value.int .i64) ++ [Value.int .i64 x.key.time] := by
 unfold timesE
 rw [List.take_add_one, h]
 simp
theorem Compact_zeroI (a : Option Addr) (cap : Nat) (w : World) : Calls Try.prog 36 #[.slice a 0 cap] w fun e w' => e = .returned (.slice a 0 cap) ∧ w = w' := by
 go_enter Try.func36, Try.ntmps36
 go_wp2
 go_ret
 exact ⟨rfl, rfl⟩
set_option maxRecDepth 100000 in
set_option maxHeartbeats 2000000 in
theorem Times_any {w : World} {a : Option Addr} {n cap : Nat} (L : List Ev) (h : EsIn w a L) (hl : L.length = n) (hn : n ≤ 10000) :
  Calls Try.prog 14 #[.slice a n cap] w fun e w' => ∃ v, e = .returned (.tuple #[v, .int .i64 (if AscE L then 0 else 110)]) ∧ w'.ownsRow w.heap.size 3 1 v (if AscE L then (timesC L).length else 0) ((if AscE L then timesC L else []).map (Value.int .i64)) ∧ Fr0 none' w w' := by
 obtain ⟨i0, hi, hz0, hz1, hz2⟩ := info_parts info_intC
 have HS := Lib.hid (Sorted_any (cap := cap) L h hl hn)
 have H := Lib.hid h
 have Hl := Lib.hid hl
 obtain ⟨N, hN⟩ : ∃ N, w.heap.size = N := ⟨_, rfl⟩
 have HN := Lib.hid hN
 rw [hN]
 clear h hl hN
 by_cases ho : AscE L
 ·rw [show decide (AscE L) = true from decide_eq_true ho] at HS
  simp only [if_pos ho]
  clear ho
  go_enter Try.func14, Try.ntmps14
  go_wp2_with fail
  refine HS.out.mono ?_
  rintro e w1 ⟨rfl, hf⟩
  have F1 := Lib.hid hf
  have H1 := Lib.hid (H.out.later hf)
  clear hf
  go_wp2_with fail
  go_loopw [4, 12] (fun out i wr => ∃ k : Nat, k ≤ n ∧ i = .int .i64 k ∧ Hid (wr.ownsRow N 3 1 out k ((timesE (L.take k)).map (Value.int .i64))) ∧ Hid (Fr0 none' w wr)) (fun _ i _ => n - (Go.RowKit.intOf i).toNat)
  case atStart => exact ⟨0, Nat.zero_le _, rfl, World.ownsRow_nil _ _ _ _, F1⟩
  case round =>
   obtain ⟨k, hk, rfl, hown, hfr⟩ := hrel
   by_cases hlt : k < n
   ·obtain ⟨x, hx⟩ : ∃ x, L[k]? = some x := ⟨_, List.getElem?_eq_getElem (by rw [Hl.out]; exact hlt)⟩
    obtain ⟨g, o, rfl, hxc⟩ := (H.out.later hfr.out) k x hx
    obtain ⟨x0, x1, x2, x3, x4⟩ := hxc
    have k1 : (0 : Int) ≤ (k : Int) := by omega
    have k2 : (k : Int) < (n : Int) := by omega
    have hsrc := Src.newRow (P := Try.prog) (size := 1) (tx := 29) (ty := 3) (wr.alloc (.cells #[.int .i64 x.key.time, .int .i64 x.key.source, .int .i64 x.key.seq, .int .i64 x.to, .int .i64 x.value] 47)) Try.underlying29 1 1 [.int .i64 x.key.time] rfl (by simp [Value.oneCell'])
    rw [World.size_alloc] at hsrc
    have hNr : N ≤ wr.heap.size := by rw [← HN.out]; exact hfr.out.size
    have Hst := Lib.hid (timesE_snoc hx)
    have Hown2 := Lib.hid ((hown.out.alloc (.cells #[.int .i64 x.key.time, .int .i64 x.key.source, .int .i64 x.key.seq, .int .i64 x.to, .int .i64 x.value] 47)).alloc (.cells [Value.int .i64 x.key.time].toArray 3))
    have Fr2 := Lib.hid ((hfr.out.alloc (.cells #[.int .i64 x.key.time, .int .i64 x.key.source, .int .i64 x.key.seq, .int .i64 x.to, .int .i64 x.value] 47)).alloc (.cells [Value.int .i64 x.key.time].toArray 3))
    have Hsrc := Lib.hid hsrc
    obtain ⟨va, vc, rfl⟩ : ∃ va vc, u4 = .slice va k vc := by
     rcases hown.out.2 with ⟨rfl, h0⟩ | ⟨g, cap, cur, rfl, _⟩
     ·exact ⟨none, 0, by rw [h0]⟩
     ·exact ⟨_, cap, rfl⟩
    clear hx hsrc hown hfr
    go_wp2_with (at_builtin; refine wpList_append_k rfl _ _ 29 29 rfl N 3 i0 (.int .i64 0) 1 8 Try.underlying29 hi hz0 hz1 hz2 rfl (by decide) _ k _ rfl Hown2.out (.slice (some ⟨wr.heap.size + 1, 0, none⟩) 1 1) 1 _ rfl Hsrc.out (by unfold maxLen; omega) (by omega) (by simp; omega) ?_; intro v' w2 hown' hgrow hdr hob)
    have Hfin := Lib.hid (Fr2.out.grown hgrow (fun j hj hl => by
     have h1 := (Hown2.out.lt j hj).1
     rw [HN.out] at hl; omega))
    rw [← Hst.out] at hown'
    have Hown' := Lib.hid hown'
    obtain ⟨g', cap', rfl⟩ := ownsRow_k_succ hown'
    clear hgrow hdr hob hown'
    go_wp2
    go_roundw
    case rel => exact ⟨k + 1, by omega, by go_num, Hown', Hfin⟩
    case measure => simp [Go.RowKit.intOf]; omega
   ·have hkm : k = n := by omega
    subst hkm
    have hfin : wr.ownsRow N 3 1 u4 k ((timesE L).map (Value.int .i64)) := by
     have h1 := hown.out
     rw [List.take_of_length_le (by rw [Hl.out]; exact Nat.le_refl _)] at h1
     exact h1
    have Hf := Lib.hid hfin
    rcases hfin.2 with ⟨rfl, h0⟩ | ⟨g, cu, cur, rfl, _⟩
    ·have hLn : Hid (timesC L = []) := by
      have : L = [] := List.eq_nil_of_length_eq_zero (by rw [Hl.out]; exact h0)
      rw [this]; rfl
     have HZ := Lib.hid (Compact_zeroI none 0 wr)
     clear hown hfin h0
     go_wp2_with fail
     refine HZ.out.mono ?_
     rintro e w2 ⟨rfl, rfl⟩
     go_wp2_with fail
     go_ret2
     exact ⟨_, rfl, by rw [hLn.out]; exact World.ownsRow_nil _ _ _ _, hfr.out⟩
    ·have HC := Lib.hid (compact_row (timesE L) hfin (by omega))
     have Hlt := Lib.hid hfin.lt
     clear hown hfin
     go_wp2_with fail
     refine HC.out.mono ?_
     rintro e w2 ⟨rfl, hrow, hf2⟩
     have HR := Lib.hid hrow
     have HF := Lib.hid (hfr.out.trans' hf2 (fun k hk h => by have h1 := (Hlt.out g rfl).1; have h : k = g := h; rw [← HN.out] at h1; omega))
     clear hrow hf2
     go_wp2_with fail
     go_ret2
     exact ⟨_, rfl, HR.out, HF.out⟩
 ·rw [show decide (AscE L) = false from decide_eq_false ho] at HS
  simp only [if_neg ho]
  clear ho
  go_enter Try.func14, Try.ntmps14
  go_wp2_with fail
  refine HS.out.mono ?_
  rintro e w1 ⟨rfl, hf⟩
  have F1 := Lib.hid hf
  clear hf
  go_wp2_with fail
  go_ret2
  exact ⟨_, rfl, World.ownsRow_nil _ _ _ _, F1.out⟩
end Go.Proofs.Ytmbjfmlicffclaa

/-
  The reference's Sorted, Count, Times.
-/
namespace Go.Proofs.Ytmbjfmlicffclaa
open Go Go.RowKit
attribute [local go_sem ↓] Go.wp_at_zero Go.wp_at_succ
attribute [local go_sem] Oper.semAt_some wide_fn wide_depth wide_fnR wide_depthR

set_option maxRecDepth 100000 in
set_option maxHeartbeats 2000000 in
theorem rSorted_any {w : World} {a : Option Addr} {n cap : Nat} (L : List Ev) (h : EsIn w a L) (hl : L.length = n) (hn : n ≤ 10000) :
  Calls Try.prog 69 #[.slice a n cap] w fun e w' => e = .returned (.bool (decide (AscE L))) ∧ Fr0 none' w w' := by
 have H := Lib.hid h
 have Hl := Lib.hid hl
 obtain ⟨R, hR⟩ : ∃ R, decide (AscE L) = R := ⟨_, rfl⟩
 rw [hR]
 have HR := Lib.hid hR
 clear h hl hR
 go_enter Try.func69, Try.ntmps69
 go_wp2_with fail
 go_loopw [3] (fun i wr => ∃ k : Nat, 1 ≤ k ∧ (k ≤ n ∨ k = 1) ∧ i = .int .i64 k ∧ Hid (∀ j x y, j + 1 < k → L[j]? = some x → L[j + 1]? = some y → cmpK x.key y.key < 0) ∧ Hid (Fr0 none' w wr)) (fun i _ => n - (Go.RowKit.intOf i).toNat)
 case atStart => exact ⟨1, Nat.le_refl _, .inr rfl, rfl, fun j x y hj => by omega, Fr0.refl _ _⟩
 case round =>
  obtain ⟨k, hk1, hkn, rfl, hpre, hfr⟩ := hrel
  by_cases hlt : k < n
  ·obtain ⟨y, hy⟩ : ∃ y, L[k]? = some y := ⟨_, List.getElem?_eq_getElem (by rw [Hl.out]; exact hlt)⟩
   obtain ⟨x, hx⟩ : ∃ y, L[k - 1]? = some y := ⟨_, List.getElem?_eq_getElem (by rw [Hl.out]; omega)⟩
   obtain ⟨g2, o, rfl, hyc⟩ := H.out k y hy
   obtain ⟨g3, o3, e3, hxc⟩ := H.out (k - 1) x hx
   injection e3 with e3
   injection e3 with e3 e4
   subst e3 e4
   have HY := Lib.hid (hyc.later hfr.out)
   have HX := Lib.hid (hxc.later hfr.out)
   have Hy := Lib.hid hy
   have Hx := Lib.hid hx
   have k1 : (0 : Int) ≤ (k : Int) := by omega
   have k2 : (k : Int) < (n : Int) := by omega
   obtain ⟨j, hj⟩ : ∃ j, k - 1 = j := ⟨_, rfl⟩
   rw [hj] at HX Hx
   have hkj : k = j + 1 := by omega
   have hj1 : (k : Int) - 1 = (j : Int) := by omega
   have k3 : (0 : Int) ≤ (j : Int) := by omega
   have k4 : (j : Int) < (n : Int) := by omega
   have k5 : IntKind.i64.wrap ((k : Int) - 1) = (j : Int) := by rw [hj1]; exact IntWalk.i64_in _ (by omega)
   have HLs := Lib.hid (fun (W : World) => rLess_any x.key y.key W)
   simp only [keyV] at HLs
   have Hkj := Lib.hid hkj
   clear hx hxc hy hyc hj hj1 hkj
   by_cases hb : cmpK x.key y.key < 0
   ·rw [show decide (cmpK x.key y.key < 0) = true from decide_eq_true hb] at HLs
    have hnext := Lib.hid (show ∀ j' x' y', j' + 1 < k + 1 → L[j']? = some x' → L[j' + 1]? = some y' → cmpK x'.key y'.key < 0 from fun j' x' y' hj' hx' hy' => by
     by_cases h : j' + 1 < k
     ·exact hpre.out j' x' y' h hx' hy'
     ·have e : j' = j := by have := Hkj.out; omega
      subst e
      rw [Hx.out] at hx'
      rw [← Hkj.out, Hy.out] at hy'
      injection hx' with hx'
      injection hy' with hy'
      rw [← hx', ← hy']; exact hb)
    clear hb
    go_wp2_with fail
    refine wp_region_held_drew (S := fun W' => Fr0 none' wr W') (by kernel_rfl) ((Fr0.refl none' wr).drew) (fun hHeld => ?_)
    refine tkn (i := 0) (v := .slice (some ⟨g2, o, none⟩) n cap) (fun W' hSW => ?_) ?_
    ·first | (go_simp; done) | exact rfl | (go_simp; rfl) | (go_simp; omega)
    try simp only [pUt, pUn, sEt, sEz, sEs]
    refine tkn (i := 1) (v := .int .i64 (k : Int)) (fun W' hSW => ?_) ?_
    ·first | (go_simp; done) | exact rfl | (go_simp; rfl) | (go_simp; omega)
    try simp only [pUt, pUn, sEt, sEz, sEs]
    refine tkn (i := 2) (v := .int .i64 (j : Int)) (fun W' hSW => ?_) ?_
    ·first | (go_simp; done) | exact rfl | (go_simp; rfl) | (go_simp; omega)
    try simp only [pUt, pUn, sEt, sEz, sEs]
    refine tkn (i := 3) (v := .pointer (some ⟨g2, o + j * 5, none⟩)) (fun W' hSW => ?_) ?_
    ·first | (go_simp; done) | exact rfl | (go_simp; rfl) | (go_simp; omega)
    try simp only [pUt, pUn, sEt, sEz, sEs]
    refine tkn (i := 4) (v := .pointer (some ⟨g2, o + j * 5, none⟩)) (fun W' hSW => ?_) ?_
    ·first | (go_simp; done) | exact rfl | (go_simp; rfl) | (go_simp; omega)
    try simp only [pUt, pUn, sEt, sEz, sEs]
    refine tkn (i := 5) (v := .agg #[.int .i64 x.key.time, .int .i64 x.key.source, .int .i64 x.key.seq]) (fun W' hSW => ?_) ?_
    ·obtain ⟨x0, x1, x2, x3, x4⟩ := HX.out.later hSW
     first | (go_simp; done) | exact rfl | (go_simp; rfl) | (go_simp; omega)
    try simp only [pUt, pUn, sEt, sEz, sEs]
    refine tkn (i := 6) (v := .slice (some ⟨g2, o, none⟩) n cap) (fun W' hSW => ?_) ?_
    ·first | (go_simp; done) | exact rfl | (go_simp; rfl) | (go_simp; omega)
    try simp only [pUt, pUn, sEt, sEz, sEs]
    refine tkn (i := 7) (v := .int .i64 (k : Int)) (fun W' hSW => ?_) ?_
    ·first | (go_simp; done) | exact rfl | (go_simp; rfl) | (go_simp; omega)
    try simp only [pUt, pUn, sEt, sEz, sEs]
    refine tkn (i := 8) (v := .pointer (some ⟨g2, o + k * 5, none⟩)) (fun W' hSW => ?_) ?_
    ·first | (go_simp; done) | exact rfl | (go_simp; rfl) | (go_simp; omega)
    try simp only [pUt, pUn, sEt, sEz, sEs]
    refine tkn (i := 9) (v := .pointer (some ⟨g2, o + k * 5, none⟩)) (fun W' hSW => ?_) ?_
    ·first | (go_simp; done) | exact rfl | (go_simp; rfl) | (go_simp; omega)
    try simp only [pUt, pUn, sEt, sEz, sEs]
    refine tkn (i := 10) (v := .agg #[.int .i64 y.key.time, .int .i64 y.key.source, .int .i64 y.key.seq]) (fun W' hSW => ?_) ?_
    ·obtain ⟨x0, x1, x2, x3, x4⟩ := HY.out.later hSW
     first | (go_simp; done) | exact rfl | (go_simp; rfl) | (go_simp; omega)
    try simp only [pUt, pUn, sEt, sEz, sEs]
    refine take_call (i := 11) rfl (by kernel_rfl) (by kernel_rfl) (fun K hK => ?_)
    go_simp
    refine (HLs.out _).mono ?_
    rintro e wA ⟨rfl, hfA⟩
    have FA := Lib.hid (hHeld.trans hfA)
    clear hfA
    go_wp2_with fail
    refine hK.out _ _ FA.out (fun hHeld => ?_)
    clear hK K
    try simp only [pUt, pUn, sEt, sEz, sEs]
    refine tkn (i := 12) (v := .bool false) (fun W' hSW => ?_) ?_
    ·first | (go_simp; done) | exact rfl | (go_simp; rfl) | (go_simp; omega)
    try simp only [pUt, pUn, sEt, sEz, sEs]
    refine wpAnyH_done (by kernel_rfl) ?_ _
    have FE := Lib.hid (hfr.out.trans hHeld)
    clear hHeld
    go_wp2_with fail
    go_roundw
    case rel => exact ⟨k + 1, by omega, .inl (by omega), by go_num, hnext, FE⟩
    case measure => simp [Go.RowKit.intOf]; omega
   ·rw [show decide (cmpK x.key y.key < 0) = false from decide_eq_false hb] at HLs
    have hres := Lib.hid (show false = R by
     rw [← HR.out]
     exact (decide_eq_false (fun ha => hb (asc_adj.1 ha j x y Hx.out (by rw [← Hkj.out]; exact Hy.out)))).symm)
    clear hb
    go_wp2_with fail
    refine wp_region_held_drew (S := fun W' => Fr0 none' wr W') (by kernel_rfl) ((Fr0.refl none' wr).drew) (fun hHeld => ?_)
    refine tkn (i := 0) (v := .slice (some ⟨g2, o, none⟩) n cap) (fun W' hSW => ?_) ?_
    ·first | (go_simp; done) | exact rfl | (go_simp; rfl) | (go_simp; omega)
    try simp only [pUt, pUn, sEt, sEz, sEs]
    refine tkn (i := 1) (v := .int .i64 (k : Int)) (fun W' hSW => ?_) ?_
    ·first | (go_simp; done) | exact rfl | (go_simp; rfl) | (go_simp; omega)
    try simp only [pUt, pUn, sEt, sEz, sEs]
    refine tkn (i := 2) (v := .int .i64 (j : Int)) (fun W' hSW => ?_) ?_
    ·first | (go_simp; done) | exact rfl | (go_simp; rfl) | (go_simp; omega)
    try simp only [pUt, pUn, sEt, sEz, sEs]
    refine tkn (i := 3) (v := .pointer (some ⟨g2, o + j * 5, none⟩)) (fun W' hSW => ?_) ?_
    ·first | (go_simp; done) | exact rfl | (go_simp; rfl) | (go_simp; omega)
    try simp only [pUt, pUn, sEt, sEz, sEs]
    refine tkn (i := 4) (v := .pointer (some ⟨g2, o + j * 5, none⟩)) (fun W' hSW => ?_) ?_
    ·first | (go_simp; done) | exact rfl | (go_simp; rfl) | (go_simp; omega)
    try simp only [pUt, pUn, sEt, sEz, sEs]
    refine tkn (i := 5) (v := .agg #[.int .i64 x.key.time, .int .i64 x.key.source, .int .i64 x.key.seq]) (fun W' hSW => ?_) ?_
    ·obtain ⟨x0, x1, x2, x3, x4⟩ := HX.out.later hSW
     first | (go_simp; done) | exact rfl | (go_simp; rfl) | (go_simp; omega)
    try simp only [pUt, pUn, sEt, sEz, sEs]
    refine tkn (i := 6) (v := .slice (some ⟨g2, o, none⟩) n cap) (fun W' hSW => ?_) ?_
    ·first | (go_simp; done) | exact rfl | (go_simp; rfl) | (go_simp; omega)
    try simp only [pUt, pUn, sEt, sEz, sEs]
    refine tkn (i := 7) (v := .int .i64 (k : Int)) (fun W' hSW => ?_) ?_
    ·first | (go_simp; done) | exact rfl | (go_simp; rfl) | (go_simp; omega)
    try simp only [pUt, pUn, sEt, sEz, sEs]
    refine tkn (i := 8) (v := .pointer (some ⟨g2, o + k * 5, none⟩)) (fun W' hSW => ?_) ?_
    ·first | (go_simp; done) | exact rfl | (go_simp; rfl) | (go_simp; omega)
    try simp only [pUt, pUn, sEt, sEz, sEs]
    refine tkn (i := 9) (v := .pointer (some ⟨g2, o + k * 5, none⟩)) (fun W' hSW => ?_) ?_
    ·first | (go_simp; done) | exact rfl | (go_simp; rfl) | (go_simp; omega)
    try simp only [pUt, pUn, sEt, sEz, sEs]
    refine tkn (i := 10) (v := .agg #[.int .i64 y.key.time, .int .i64 y.key.source, .int .i64 y.key.seq]) (fun W' hSW => ?_) ?_
    ·obtain ⟨x0, x1, x2, x3, x4⟩ := HY.out.later hSW
     first | (go_simp; done) | exact rfl | (go_simp; rfl) | (go_simp; omega)
    try simp only [pUt, pUn, sEt, sEz, sEs]
    refine take_call (i := 11) rfl (by kernel_rfl) (by kernel_rfl) (fun K hK => ?_)
    go_simp
    refine (HLs.out _).mono ?_
    rintro e wA ⟨rfl, hfA⟩
    have FA := Lib.hid (hHeld.trans hfA)
    clear hfA
    go_wp2_with fail
    refine hK.out _ _ FA.out (fun hHeld => ?_)
    clear hK K
    try simp only [pUt, pUn, sEt, sEz, sEs]
    refine tkn (i := 12) (v := .bool true) (fun W' hSW => ?_) ?_
    ·first | (go_simp; done) | exact rfl | (go_simp; rfl) | (go_simp; omega)
    try simp only [pUt, pUn, sEt, sEz, sEs]
    refine wpAnyH_done (by kernel_rfl) ?_ _
    have FE := Lib.hid (hfr.out.trans hHeld)
    clear hHeld
    go_wp2_with fail
    go_ret
    exact ⟨ret_bool hres.out, FE.out⟩
  ·have hres := Lib.hid (show true = R by
    rw [← HR.out]
    exact (decide_eq_true (asc_adj.2 (fun j x y hx hy => hpre.out j x y (by have := (List.getElem?_eq_some_iff.1 hy).1; rw [Hl.out] at this; omega) hx hy))).symm)
   go_wp2_with fail
   go_ret
   exact ⟨ret_bool hres.out, hfr.out⟩
end Go.Proofs.Ytmbjfmlicffclaa

/-
  The reference of layer 10: Less, Right, at, with.
-/
namespace Go.Proofs.Ytmbjfmlicffclaa
open Go Go.RowKit
attribute [local go_sem ↓] Go.wp_at_zero Go.wp_at_succ
attribute [local go_sem] Oper.semAt_some wide_fn wide_depth wide_fnR wide_depthR

set_option maxRecDepth 100000 in
set_option maxHeartbeats 2000000 in
theorem rRightK_any (k : Key3) (w : World) : Calls Try.prog 106 #[keyV k] w fun e w' => e = .returned (.bool (decide (RightK k))) ∧ Fr0 none' w w' := by
 simp only [keyV]
 go_enter Try.func106, Try.ntmps106
 go_wp2_with fail
 all_goals
  go_ret
  refine ⟨congrArg (fun b => Ending.returned (Value.bool b)) ?_, ((Fr0.refl _ _).alloc _)⟩
  first
   | exact (decide_eq_false (by unfold RightK; omega)).symm
   | exact decide_eq_decide.2 (by unfold RightK; omega)
set_option maxRecDepth 100000 in
set_option maxHeartbeats 2000000 in
theorem rLessK_any (a b : Key3) (w : World) : Calls Try.prog 91 #[keyV a, keyV b] w fun e w' => e = .returned (.bool (decide (cmpK a b < 0))) ∧ Fr0 none' w w' := by
 simp only [keyV]
 go_enter Try.func91, Try.ntmps91
 go_wp2_with fail
 all_goals
  go_ret
  refine ⟨congrArg (fun b => Ending.returned (Value.bool b)) (decide_eq_decide.2 ?_), (((Fr0.refl _ _).alloc _).alloc _)⟩
  rw [cmpK_lt]
  try simp only [bne_iff_ne, ne_eq, bne_eq_false_iff_eq, Bool.not_eq_true] at *
  omega
set_option maxRecDepth 100000 in
set_option maxHeartbeats 2000000 in
theorem rRightE_any (x : Ev) (w : World) : Calls Try.prog 99 #[evV x] w fun e w' => e = .returned (.bool (decide (RightE x))) ∧ Fr0 none' w w' := by
 have HR := Lib.hid (rRightK_any x.key)
 simp only [keyV] at HR
 unfold evV
 go_enter Try.func99, Try.ntmps99
 go_wp2_with fail
 obtain ⟨B, hB⟩ : ∃ B, w.heap.size = B := ⟨_, rfl⟩
 obtain ⟨W, hW⟩ : ∃ W, w.alloc (.cells #[.int .i64 x.key.time, .int .i64 x.key.source, .int .i64 x.key.seq, .int .i64 x.to, .int .i64 x.value] 47) = W := ⟨_, rfl⟩
 have F1 := Lib.hid (show Fr0 none' w W by rw [← hW]; exact (Fr0.refl _ _).alloc _)
 have hb : W.heap[B]? = some (.cells (cev x).toArray 47 (0, 0)) := by rw [← hW, ← hB]; exact World.alloc_heap_new w _
 rw [hW]
 try rw [hB]
 clear hW hB
 refine (HR.out _).mono ?_
 rintro e w2 ⟨rfl, hf⟩
 have hb2 := (hf.block B (Array.getElem?_eq_some_iff.1 hb).1 id).trans hb
 have F2 := Lib.hid (F1.out.trans hf)
 clear hf hb F1
 have a0 := cells_in hb2 0
 have a1 := cells_in hb2 1
 have a2 := cells_in hb2 2
 have a3 := cells_in hb2 3
 have a4 := cells_in hb2 4
 simp [cev] at a0 a1 a2 a3 a4
 clear hb2
 by_cases h1 : RightK x.key
 ·rw [decide_eq_true h1]
  go_wp2_with fail
  all_goals
   go_ret
   refine ⟨congrArg (fun b => Ending.returned (Value.bool b)) ?_, F2.out⟩
   first
    | exact (decide_eq_false (fun h => by have := h.2; omega)).symm
    | exact decide_eq_decide.2 ⟨fun h => ⟨h1, by omega, by omega⟩, fun h => by have := h.2; omega⟩
 ·rw [decide_eq_false h1]
  go_wp2_with fail
  go_ret
  exact ⟨congrArg (fun b => Ending.returned (Value.bool b)) (decide_eq_false (fun h => h1 h.1)).symm, F2.out⟩

set_option maxRecDepth 100000 in
set_option maxHeartbeats 2000000 in
theorem rat_any {w : World} {a : Option Addr} {n cap : Nat} (E : List Ev) (h : EsIn w a E) (hl : E.length = n) (hn : n ≤ 1000000) (s q : Int) :
  Calls Try.prog 100 #[.slice a n cap, .int .i64 s, .int .i64 q] w fun e w' => e = .returned (.int .i64 (atE (s, q) E)) ∧ w = w' := by
 obtain ⟨R, hR⟩ : ∃ R, atE (s, q) E = R := ⟨_, rfl⟩
 rw [hR]
 have HR := Lib.hid hR
 have H := Lib.hid h
 have Hl := Lib.hid hl
 clear h hl hR
 go_enter Try.func100, Try.ntmps100
 go_wp2_with fail
 go_loopw [7] (fun i wr => ∃ k : Nat, k ≤ n ∧ i = .int .i64 k ∧ Hid (∀ y ∈ E.take k, (y.name == (s, q)) = false) ∧ wr = w) (fun i _ => n - (Go.RowKit.intOf i).toNat)
 case atStart => exact ⟨0, Nat.zero_le _, rfl, by unfold Hid; simp, rfl⟩
 case round =>
  obtain ⟨k, hk, rfl, hpre, rfl⟩ := hrel
  by_cases hlt : k < n
  ·obtain ⟨x, hx⟩ : ∃ x, E[k]? = some x := ⟨_, List.getElem?_eq_getElem (by rw [Hl.out]; exact hlt)⟩
   obtain ⟨g2, o, rfl, hxc⟩ := H.out k x hx
   obtain ⟨x0, x1, x2, x3, x4⟩ := hxc
   have Hx := Lib.hid hx
   have k1 : (0 : Int) ≤ (k : Int) := by omega
   have k2 : (k : Int) < (n : Int) := by omega
   have hno : Hid ((x.name == (s, q)) = false → ∀ y ∈ E.take (k + 1), (y.name == (s, q)) = false) := fun hfx y hy => by
    rw [List.take_add_one, Hx.out, List.mem_append] at hy
    rcases hy with hy | hy
    ·exact hpre.out y hy
    ·simp at hy; subst hy; exact hfx
   have hyes : Hid ((x.name == (s, q)) = true → (k : Int) = R) := fun hfx => by
    rw [← HR.out]; exact (idxI_at hpre.out Hx.out hfx).symm
   clear hx
   by_cases h1 : x.key.source = s
   ·have e1 : (x.key.source == s) = true := by simpa using h1
    by_cases h2 : x.key.seq = q
    ·have e2 : (x.key.seq == q) = true := by simpa using h2
     have hres := Lib.hid (hyes.out (by simp [Ev.name, h1, h2]))
     clear h1 h2
     go_wp2_with fail
     go_ret
     exact ⟨congrArg (fun b => Ending.returned (Value.int .i64 b)) hres.out, rfl⟩
    ·have e2 : (x.key.seq == q) = false := by simpa using h2
     have hres := Lib.hid (hno.out (by simp [Ev.name, h1, h2]))
     clear h1 h2
     go_wp2_with fail
     go_roundw
     case rel => exact ⟨k + 1, by omega, by go_num, hres, trivial⟩
     case measure => simp [Go.RowKit.intOf]; omega
   ·have e1 : (x.key.source == s) = false := by simpa using h1
    have hres := Lib.hid (hno.out (by simp [Ev.name, h1]))
    clear h1
    go_wp2_with fail
    go_roundw
    case rel => exact ⟨k + 1, by omega, by go_num, hres, trivial⟩
    case measure => simp [Go.RowKit.intOf]; omega
  ·have hres := Lib.hid (show (-1 : Int) = R by
    rw [← HR.out]
    have := hpre.out
    rw [List.take_of_length_le (by rw [Hl.out]; omega)] at this
    exact (idxI_none this).symm)
   go_wp2
   go_ret
   exact ⟨congrArg (fun b => Ending.returned (Value.int .i64 b)) hres.out, rfl⟩

theorem own_low {w : World} {base base' : Nat} {e : TypeId} {size : Nat} {v : Value} {n : Nat} {xs : List Value} (h : w.ownsRow base e size v n xs) (hb : base' ≤ base) : w.ownsRow base' e size v n xs := by
 obtain ⟨h1, h2⟩ := h
 refine ⟨h1, ?_⟩
 rcases h2 with h2 | ⟨g, cap, cur, hv, hg, r⟩
 ·exact Or.inl h2
 ·exact Or.inr ⟨g, cap, cur, hv, Nat.le_trans hb hg, r⟩
/-- One round of putting an event among others. -/
def wStep (x : Ev) (s : Bool × List Ev) (y : Ev) : Bool × List Ev := if s.1 = false ∧ cmpK x.key y.key < 0 then (true, s.2 ++ [x] ++ [y]) else (s.1, s.2 ++ [y])
def wRun (x : Ev) (E : List Ev) : Bool × List Ev := E.foldl (wStep x) (false, [])
def withE (x : Ev) (E : List Ev) : List Ev := if (wRun x E).1 then (wRun x E).2 else (wRun x E).2 ++ [x]
theorem wRun_snoc {x y : Ev} {E : List Ev} {k : Nat} (h : E[k]? = some y) : wRun x (E.take (k + 1)) = wStep x (wRun x (E.take k)) y := by
 unfold wRun
 rw [List.take_add_one, h, List.foldl_append]
 rfl
theorem wRun_there (x : Ev) : ∀ (E out : List Ev), E.foldl (wStep x) (true, out) = (true, out ++ E)
 | [], out => by simp
 | y :: r, out => by
  rw [List.foldl_cons]
  have : wStep x (true, out) y = (true, out ++ [y]) := by unfold wStep; simp
  rw [this, wRun_there x r, List.append_assoc]
  rfl
theorem wRun_ins (x : Ev) : ∀ (E out : List Ev), (∀ y ∈ E, y.key ≠ x.key) → (if (E.foldl (wStep x) (false, out)).1 then (E.foldl (wStep x) (false, out)).2 else (E.foldl (wStep x) (false, out)).2 ++ [x]) = out ++ insE x E
 | [], out, _ => by simp [insE]
 | y :: r, out, h => by
  have hne := h y (List.mem_cons_self ..)
  have hanti := cmpK_anti x.key y.key
  have hz : cmpK y.key x.key ≠ 0 := fun e => hne ((cmpK_eq ..).1 e)
  rw [List.foldl_cons, insE]
  by_cases hlt : cmpK y.key x.key < 0
  ·have : wStep x (false, out) y = (false, out ++ [y]) := by unfold wStep; rw [if_neg]; simp; omega
   rw [this, if_pos hlt, wRun_ins x r _ (fun z hz => h z (List.mem_cons_of_mem _ hz))]
   simp
  ·have : wStep x (false, out) y = (true, out ++ [x] ++ [y]) := by unfold wStep; rw [if_pos]; simp; omega
   rw [this, if_neg hlt, wRun_there]
   simp
theorem withE_ins {x : Ev} {E : List Ev} (h : ∀ y ∈ E, y.name ≠ x.name) : withE x E = insE x E := by
 have := wRun_ins x E [] (fun y hy e => h y hy (name_key e))
 unfold withE wRun
 rw [this]
 rfl
theorem wStep_len (x : Ev) (s : Bool × List Ev) (y : Ev) : (wStep x s y).2.length ≤ s.2.length + 2 := by
 unfold wStep
 split <;> simp
theorem wRun_len (x : Ev) (E : List Ev) : (wRun x E).2.length ≤ E.length * 2 := by
 have : ∀ (E : List Ev) (s : Bool × List Ev), (E.foldl (wStep x) s).2.length ≤ s.2.length + E.length * 2 := by
  intro E
  induction E with
  | nil => intro s; simp
  | cons y r ih =>
   intro s
   have h1 := ih (wStep x s y)
   have h2 := wStep_len x s y
   rw [List.foldl_cons, List.length_cons]
   omega
 have := this E (false, [])
 unfold wRun
 simpa using this
set_option maxRecDepth 100000 in
set_option maxHeartbeats 2000000 in
theorem rwith_any {w : World} {a : Option Addr} {n cap : Nat} (E : List Ev) (h : EsIn w a E) (hl : E.length = n) (hn : n ≤ 1000) (x : Ev) :
  Calls Try.prog 105 #[.slice a n cap, evV x] w fun e w' => ∃ v, e = .returned v ∧ w'.ownsRow w.heap.size 47 5 v (withE x E).length (flatEv (withE x E)) ∧ Fr0 none' w w' := by
 obtain ⟨i0, hi, hz0, hz1, hz2⟩ := info_parts info_event0
 have H := Lib.hid h
 have Hl := Lib.hid hl
 clear h hl
 unfold evV
 go_enter Try.func105, Try.ntmps105
 go_wp2_with fail
 obtain ⟨B, hB⟩ : ∃ B, w.heap.size = B := ⟨_, rfl⟩
 obtain ⟨W, hW⟩ : ∃ W, w.alloc (.cells #[.int .i64 x.key.time, .int .i64 x.key.source, .int .i64 x.key.seq, .int .i64 x.to, .int .i64 x.value] 47) = W := ⟨_, rfl⟩
 have F1 := Lib.hid (show Fr0 none' w W by rw [← hW]; exact (Fr0.refl _ _).alloc _)
 have HB := Lib.hid (show W.heap[B]? = some (.cells (cev x).toArray 47 (0, 0)) by rw [← hW, ← hB]; exact World.alloc_heap_new w _)
 have Hb := Lib.hid hB
 rw [hW]
 try rw [hB]
 clear hW hB
 go_loopw [5, 6, 7] (fun v5 v6 i wr => ∃ (k : Nat) (b : Bool) (out : List Ev), k ≤ n ∧ i = .int .i64 k ∧ v6 = .bool b ∧ Hid (wRun x (E.take k) = (b, out)) ∧ Hid (wr.ownsRow (w.heap.size + 1) 47 5 v5 out.length (flatEv out)) ∧ Hid (wr.heap[B]? = some (.cells (cev x).toArray 47 (0, 0))) ∧ Hid (Fr0 none' w wr)) (fun _ _ i _ => n - (Go.RowKit.intOf i).toNat)
 case atStart => exact ⟨0, false, [], Nat.zero_le _, rfl, rfl, rfl, World.ownsRow_nil _ _ _ _, HB, F1⟩
 case round =>
  obtain ⟨k, b, out, hk, rfl, rfl, hrun, hrow, hbx, hfr⟩ := hrel
  have hol : out.length ≤ 2000 := by
   have h1 := wRun_len x (E.take k)
   rw [hrun.out, List.length_take] at h1
   simp only at h1
   omega
  obtain ⟨va, vc, rfl, _, _⟩ := EsIn.of_own hrow.out
  have a0 := cells_in hbx.out 0
  have a1 := cells_in hbx.out 1
  have a2 := cells_in hbx.out 2
  have a3 := cells_in hbx.out 3
  have a4 := cells_in hbx.out 4
  simp [cev] at a0 a1 a2 a3 a4
  by_cases hlt : k < n
  ·obtain ⟨y, hy⟩ : ∃ y, E[k]? = some y := ⟨_, List.getElem?_eq_getElem (by rw [Hl.out]; exact hlt)⟩
   obtain ⟨g2, o, rfl, hxc⟩ := H.out k y hy
   obtain ⟨x0, x1, x2, x3, x4⟩ := hxc.later hfr.out
   have k1 : (0 : Int) ≤ (k : Int) := by omega
   have k2 : (k : Int) < (n : Int) := by omega
   have hsn := wRun_snoc (x := x) hy
   rw [hrun.out] at hsn
   have HL := Lib.hid (rLessK_any x.key y.key)
   simp only [keyV] at HL
   obtain ⟨c, hc⟩ : ∃ c, decide (cmpK x.key y.key < 0) = c := ⟨_, rfl⟩
   rw [hc] at HL
   have Hsn := Lib.hid hsn
   have Hc := Lib.hid hc
   clear hy hsn hc
   have HY := Lib.hid hxc
   have HX := Lib.hid (fun (W' : World) (hf : Fr0 none' wr W') => (hf.block B (Array.getElem?_eq_some_iff.1 hbx.out).1 id).trans hbx.out)
   clear a0 a1 a2 a3 a4 x0 x1 x2 x3 x4 hxc
   cases b with
   | true =>
    have hst := Hsn.out
    rw [show wStep x (true, out) y = (true, out ++ [y]) by unfold wStep; simp] at hst
    have Hst := Lib.hid hst
    clear hst
    go_wp2_with fail
    refine wp_region_held_drew (S := fun W' => Fr0 none' wr W') (by kernel_rfl) ((Fr0.refl none' wr).drew) (fun hHeld => ?_)
    refine tkn (i := 0) (v := .bool true) (fun W' hSW => ?_) ?_
    ·first | (go_simp; done) | exact rfl | (go_simp; rfl) | (go_simp; omega)
    try simp only [pUt, pUn, sEt, sEz, sEs]
    refine tkn (i := 1) (v := .bool false) (fun W' hSW => ?_) ?_
    ·first | (go_simp; done) | exact rfl | (go_simp; rfl) | (go_simp; omega)
    try simp only [pUt, pUn, sEt, sEz, sEs]
    refine tkn (i := 2) (v := .bool false) (fun W' hSW => ?_) ?_
    ·first | (go_simp; done) | exact rfl | (go_simp; rfl) | (go_simp; omega)
    try simp only [pUt, pUn, sEt, sEz, sEs]
    refine take_off (i := 3) rfl (by kernel_rfl) (by kernel_rfl) (by kernel_rfl) (fun _ _ _ h => h) (by kernel_rfl) (by assumption) ?_
    try simp only [pUt, pUn, sEt, sEz, sEs]
    refine take_off (i := 4) rfl (by kernel_rfl) (by kernel_rfl) (by kernel_rfl) (fun _ _ _ h => h) (by kernel_rfl) (by assumption) ?_
    try simp only [pUt, pUn, sEt, sEz, sEs]
    refine take_off (i := 5) rfl (by kernel_rfl) (by kernel_rfl) (by kernel_rfl) (fun _ _ _ h => h) (by kernel_rfl) (by assumption) ?_
    try simp only [pUt, pUn, sEt, sEz, sEs]
    refine take_off (i := 6) rfl (by kernel_rfl) (by kernel_rfl) (by kernel_rfl) (fun _ _ _ h => h) (by kernel_rfl) (by assumption) ?_
    try simp only [pUt, pUn, sEt, sEz, sEs]
    refine take_off (i := 7) rfl (by kernel_rfl) (by kernel_rfl) (by kernel_rfl) (fun _ _ _ h => h) (by kernel_rfl) (by assumption) ?_
    try simp only [pUt, pUn, sEt, sEz, sEs]
    refine take_off (i := 8) rfl (by kernel_rfl) (by kernel_rfl) (by kernel_rfl) (fun _ _ _ h => h) (by kernel_rfl) (by assumption) ?_
    try simp only [pUt, pUn, sEt, sEz, sEs]
    refine take_off (i := 9) rfl (by kernel_rfl) (by kernel_rfl) (by kernel_rfl) (fun _ _ _ h => h) (by kernel_rfl) (by assumption) ?_
    try simp only [pUt, pUn, sEt, sEz, sEs]
    refine take_off (i := 10) rfl (by kernel_rfl) (by kernel_rfl) (by kernel_rfl) (fun _ _ _ h => h) (by kernel_rfl) (by assumption) ?_
    try simp only [pUt, pUn, sEt, sEz, sEs]
    refine tkn (i := 11) (v := .bool false) (fun W' hSW => ?_) ?_
    ·first | (go_simp; done) | exact rfl | (go_simp; rfl) | (go_simp; omega)
    try simp only [pUt, pUn, sEt, sEz, sEs]
    refine wpAnyH_done (by kernel_rfl) ?_ _
    have hf2 : Fr0 none' wr wr.drew := (Fr0.refl none' wr).drew
    obtain ⟨w2, hw2⟩ : ∃ w2, wr.drew = w2 := ⟨_, rfl⟩
    rw [hw2] at hf2 ⊢
    clear hw2
    have hrow := Lib.hid (ownsRow_fr0 hrow.out hf2 (fun _ _ h => h))
    have hbx := Lib.hid ((hf2.block B (Array.getElem?_eq_some_iff.1 hbx.out).1 id).trans hbx.out)
    have hfr := Lib.hid (hfr.out.trans hf2)
    clear hf2 HX
    obtain ⟨x0, x1, x2, x3, x4⟩ := HY.out.later hfr.out
    have hsrc := Src.newRow (P := Try.prog) (size := 5) (tx := 24) (ty := 47) w2 Try.underlying24 1 1 (cev y) rfl (by simp [Value.oneCell', cev])
    simp only [cev] at hsrc
    have hbase : w.heap.size + 1 ≤ (w2).heap.size := by have h1 := (Array.getElem?_eq_some_iff.1 hbx.out).1; have := Hb.out; omega
    go_wp2_with (at_builtin; refine wpList_append_k rfl _ _ 24 24 rfl (w.heap.size + 1) 47 i0 (.agg #[.int .i64 0, .int .i64 0, .int .i64 0, .int .i64 0, .int .i64 0]) 5 40 Try.underlying24 hi hz0 hz1 hz2 rfl (by decide) (Value.slice va out.length vc) (out.length) _ rfl (ownsRow_fr0 hrow.out ((Fr0.refl none' w2).alloc _) (fun _ _ h => h)) (.slice (some ⟨(w2).heap.size, 0, none⟩) 1 1) 1 _ rfl hsrc (by unfold maxLen; omega) (by omega) (by simp; omega) ?_; intro v9 w9 hown hgrow hdr hob; obtain ⟨g9, c9, rfl⟩ := ownsRow_k_succ hown; have Lw9 := Lib.hid hrow.out.lt; have Fw9 := Lib.hid (show Fr0 (fun i => (Value.slice va out.length vc).ownBlock = some i) w2 w9 from ((Fr0.refl _ w2).alloc _).grown hgrow (fun i hi _ => hi)); have Rw9 := Lib.hid hown; clear hown hgrow hdr hob hsrc)
    have hrow := Lib.hid (show (w9).ownsRow (w.heap.size + 1) 47 5 (.slice (some ⟨g9, 0, none⟩) (out.length + 1) c9) (out.length + 1) (flatEv (out ++ [y])) by simpa [flatEv, cev] using Rw9.out)
    have hbx := Lib.hid ((Fw9.out.block B (Array.getElem?_eq_some_iff.1 hbx.out).1 (fun h => by have := (Lw9.out B h).1; have := Hb.out; omega)).trans hbx.out)
    have hfr := Lib.hid (hfr.out.trans' Fw9.out (fun i hi h => by have := (Lw9.out i h).1; omega))
    clear x0 x1 x2 x3 x4
    go_roundw
    case rel => exact ⟨k + 1, _, _, by omega, by go_num, rfl, Hst, by simpa using hrow, hbx, hfr⟩
    case measure => simp [Go.RowKit.intOf]; omega
   | false =>
    go_wp2_with fail
    refine wp_region_held_drew (S := fun W' => Fr0 none' wr W') (by kernel_rfl) ((Fr0.refl none' wr).drew) (fun hHeld => ?_)
    refine tkn (i := 0) (v := .bool false) (fun W' hSW => ?_) ?_
    ·first | (go_simp; done) | exact rfl | (go_simp; rfl) | (go_simp; omega)
    try simp only [pUt, pUn, sEt, sEz, sEs]
    refine tkn (i := 1) (v := .bool true) (fun W' hSW => ?_) ?_
    ·first | (go_simp; done) | exact rfl | (go_simp; rfl) | (go_simp; omega)
    try simp only [pUt, pUn, sEt, sEz, sEs]
    refine tkn (i := 2) (v := .bool true) (fun W' hSW => ?_) ?_
    ·first | (go_simp; done) | exact rfl | (go_simp; rfl) | (go_simp; omega)
    try simp only [pUt, pUn, sEt, sEz, sEs]
    refine tkn (i := 3) (v := .pointer (some ⟨B, 0, none⟩)) (fun W' hSW => ?_) ?_
    ·first | (go_simp; done) | exact rfl | (go_simp; rfl) | (go_simp; omega)
    try simp only [pUt, pUn, sEt, sEz, sEs]
    refine tkn (i := 4) (v := .agg #[.int .i64 x.key.time, .int .i64 x.key.source, .int .i64 x.key.seq]) (fun W' hSW => ?_) ?_
    ·have hb := HX.out W' hSW
     have x0 := cells_in hb 0
     have x1 := cells_in hb 1
     have x2 := cells_in hb 2
     have x3 := cells_in hb 3
     have x4 := cells_in hb 4
     simp [cev] at x0 x1 x2 x3 x4
     clear hb
     first | (go_simp; done) | exact rfl | (go_simp; rfl) | (go_simp; omega)
    try simp only [pUt, pUn, sEt, sEz, sEs]
    refine tkn (i := 5) (v := .slice (some ⟨g2, o, none⟩) n cap) (fun W' hSW => ?_) ?_
    ·first | (go_simp; done) | exact rfl | (go_simp; rfl) | (go_simp; omega)
    try simp only [pUt, pUn, sEt, sEz, sEs]
    refine tkn (i := 6) (v := .int .i64 k) (fun W' hSW => ?_) ?_
    ·first | (go_simp; done) | exact rfl | (go_simp; rfl) | (go_simp; omega)
    try simp only [pUt, pUn, sEt, sEz, sEs]
    refine tkn (i := 7) (v := .pointer (some ⟨g2, o + k * 5, none⟩)) (fun W' hSW => ?_) ?_
    ·first | (go_simp; done) | exact rfl | (go_simp; rfl) | (go_simp; omega)
    try simp only [pUt, pUn, sEt, sEz, sEs]
    refine tkn (i := 8) (v := .pointer (some ⟨g2, o + k * 5, none⟩)) (fun W' hSW => ?_) ?_
    ·first | (go_simp; done) | exact rfl | (go_simp; rfl) | (go_simp; omega)
    try simp only [pUt, pUn, sEt, sEz, sEs]
    refine tkn (i := 9) (v := .agg #[.int .i64 y.key.time, .int .i64 y.key.source, .int .i64 y.key.seq]) (fun W' hSW => ?_) ?_
    ·obtain ⟨b0, b1, b2, b3, b4⟩ := HY.out.later (hfr.out.trans hSW)
     first | (go_simp; done) | exact rfl | (go_simp; rfl) | (go_simp; omega)
    try simp only [pUt, pUn, sEt, sEz, sEs]
    refine take_call (i := 10) rfl (by kernel_rfl) (by kernel_rfl) (fun K hK => ?_)
    go_simp
    refine (HL.out _).mono ?_
    rintro e w2 ⟨rfl, hf2⟩
    have hf2 : Fr0 none' wr w2 := ((Fr0.refl none' wr).drew).trans hf2
    go_wp2_with fail
    refine hK.out _ _ hf2 (fun hS => ?_)
    clear hK K
    try simp only [pUt, pUn, sEt, sEz, sEs]
    refine tkn (i := 11) (v := .bool c) (fun W' hSW => ?_) ?_
    ·first | (go_simp; done) | exact rfl | (go_simp; rfl) | (go_simp; omega)
    try simp only [pUt, pUn, sEt, sEz, sEs]
    refine wpAnyH_done (by kernel_rfl) ?_ _
    clear hHeld hS
    have hrow := Lib.hid (ownsRow_fr0 hrow.out hf2 (fun _ _ h => h))
    have hbx := Lib.hid ((hf2.block B (Array.getElem?_eq_some_iff.1 hbx.out).1 id).trans hbx.out)
    have hfr := Lib.hid (hfr.out.trans hf2)
    clear hf2 HX
    cases c with
    | true =>
     have hst := Hsn.out
     rw [show wStep x (false, out) y = (true, out ++ [x] ++ [y]) by unfold wStep; rw [if_pos ⟨rfl, of_decide_eq_true Hc.out⟩]] at hst
     have Hst := Lib.hid hst
     clear hst
     have a0 := cells_in hbx.out 0
     have a1 := cells_in hbx.out 1
     have a2 := cells_in hbx.out 2
     have a3 := cells_in hbx.out 3
     have a4 := cells_in hbx.out 4
     simp [cev] at a0 a1 a2 a3 a4
     have hsrc := Src.newRow (P := Try.prog) (size := 5) (tx := 24) (ty := 47) w2 Try.underlying24 1 1 (cev x) rfl (by simp [Value.oneCell', cev])
     simp only [cev] at hsrc
     have hbase : w.heap.size + 1 ≤ w2.heap.size := by have h1 := (Array.getElem?_eq_some_iff.1 hbx.out).1; have := Hb.out; omega
     go_wp2_with (at_builtin; first | (refine wpList_append_k rfl _ _ 24 24 rfl (w.heap.size + 1) 47 i0 (.agg #[.int .i64 0, .int .i64 0, .int .i64 0, .int .i64 0, .int .i64 0]) 5 40 Try.underlying24 hi hz0 hz1 hz2 rfl (by decide) (Value.slice va out.length vc) (out.length) _ rfl (ownsRow_fr0 hrow.out ((Fr0.refl none' w2).alloc _) (fun _ _ h => h)) (.slice (some ⟨(w2).heap.size, 0, none⟩) 1 1) 1 _ rfl hsrc (by unfold maxLen; omega) (by omega) (by simp; omega) ?_; intro v9 w9 hown hgrow hdr hob; obtain ⟨g9, c9, rfl⟩ := ownsRow_k_succ hown; have Lw9 := Lib.hid hrow.out.lt; have Fw9 := Lib.hid (show Fr0 (fun i => (Value.slice va out.length vc).ownBlock = some i) w2 w9 from ((Fr0.refl _ w2).alloc _).grown hgrow (fun i hi _ => hi)); have Rw9 := Lib.hid hown; clear hown hgrow hdr hob hsrc; obtain ⟨x0, x1, x2, x3, x4⟩ := HY.out.later (hfr.out.trans' Fw9.out (fun i hi h => by have := (Lw9.out i h).1; omega)); have hbase : w.heap.size + 1 ≤ w9.heap.size := Nat.le_trans hbase Fw9.out.size; have hsrc2 := Src.newRow (P := Try.prog) (size := 5) (tx := 24) (ty := 47) w9 Try.underlying24 1 1 (cev y) rfl (by simp [Value.oneCell', cev]); simp only [cev] at hsrc2) | (refine wpList_append_k rfl _ _ 24 24 rfl (w.heap.size + 1) 47 i0 (.agg #[.int .i64 0, .int .i64 0, .int .i64 0, .int .i64 0, .int .i64 0]) 5 40 Try.underlying24 hi hz0 hz1 hz2 rfl (by decide) (Value.slice (some ⟨g9, 0, none⟩) (out.length + 1) c9) (out.length + 1) _ rfl (ownsRow_fr0 Rw9.out ((Fr0.refl none' w9).alloc _) (fun _ _ h => h)) (.slice (some ⟨(w9).heap.size, 0, none⟩) 1 1) 1 _ rfl hsrc2 (by unfold maxLen; omega) (by omega) (by simp; omega) ?_; intro v9 w10 hown hgrow hdr hob; obtain ⟨g10, c10, rfl⟩ := ownsRow_k_succ hown; have Lw10 := Lib.hid Rw9.out.lt; have Fw10 := Lib.hid (show Fr0 (fun i => (Value.slice (some ⟨g9, 0, none⟩) (out.length + 1) c9).ownBlock = some i) w9 w10 from ((Fr0.refl _ w9).alloc _).grown hgrow (fun i hi _ => hi)); have Rw10 := Lib.hid hown; clear hown hgrow hdr hob hsrc2))
     have hrow := Lib.hid (show (w9).ownsRow (w.heap.size + 1) 47 5 (.slice (some ⟨g9, 0, none⟩) (out.length + 1) c9) (out.length + 1) (flatEv (out ++ [x])) by simpa [flatEv, cev] using Rw9.out)
     have hbx := Lib.hid ((Fw9.out.block B (Array.getElem?_eq_some_iff.1 hbx.out).1 (fun h => by have := (Lw9.out B h).1; have := Hb.out; omega)).trans hbx.out)
     have hfr := Lib.hid (hfr.out.trans' Fw9.out (fun i hi h => by have := (Lw9.out i h).1; omega))
     have hrow := Lib.hid (show (w10).ownsRow (w.heap.size + 1) 47 5 (.slice (some ⟨g10, 0, none⟩) (out.length + 1 + 1) c10) (out.length + 1 + 1) (flatEv (out ++ [x] ++ [y])) by simpa [flatEv, cev] using Rw10.out)
     have hbx := Lib.hid ((Fw10.out.block B (Array.getElem?_eq_some_iff.1 hbx.out).1 (fun h => by have := (Lw10.out B h).1; have := Hb.out; omega)).trans hbx.out)
     have hfr := Lib.hid (hfr.out.trans' Fw10.out (fun i hi h => by have := (Lw10.out i h).1; omega))
     clear a0 a1 a2 a3 a4 x0 x1 x2 x3 x4
     go_roundw
     case rel => exact ⟨k + 1, _, _, by omega, by go_num, rfl, Hst, by simpa using hrow, hbx, hfr⟩
     case measure => simp [Go.RowKit.intOf]; omega
    | false =>
     have hst := Hsn.out
     rw [show wStep x (false, out) y = (false, out ++ [y]) by unfold wStep; rw [if_neg (fun h => of_decide_eq_false Hc.out h.2)]] at hst
     have Hst := Lib.hid hst
     clear hst
     obtain ⟨x0, x1, x2, x3, x4⟩ := HY.out.later hfr.out
     have hsrc := Src.newRow (P := Try.prog) (size := 5) (tx := 24) (ty := 47) w2 Try.underlying24 1 1 (cev y) rfl (by simp [Value.oneCell', cev])
     simp only [cev] at hsrc
     have hbase : w.heap.size + 1 ≤ (w2).heap.size := by have h1 := (Array.getElem?_eq_some_iff.1 hbx.out).1; have := Hb.out; omega
     go_wp2_with (at_builtin; refine wpList_append_k rfl _ _ 24 24 rfl (w.heap.size + 1) 47 i0 (.agg #[.int .i64 0, .int .i64 0, .int .i64 0, .int .i64 0, .int .i64 0]) 5 40 Try.underlying24 hi hz0 hz1 hz2 rfl (by decide) (Value.slice va out.length vc) (out.length) _ rfl (ownsRow_fr0 hrow.out ((Fr0.refl none' w2).alloc _) (fun _ _ h => h)) (.slice (some ⟨(w2).heap.size, 0, none⟩) 1 1) 1 _ rfl hsrc (by unfold maxLen; omega) (by omega) (by simp; omega) ?_; intro v9 w9 hown hgrow hdr hob; obtain ⟨g9, c9, rfl⟩ := ownsRow_k_succ hown; have Lw9 := Lib.hid hrow.out.lt; have Fw9 := Lib.hid (show Fr0 (fun i => (Value.slice va out.length vc).ownBlock = some i) w2 w9 from ((Fr0.refl _ w2).alloc _).grown hgrow (fun i hi _ => hi)); have Rw9 := Lib.hid hown; clear hown hgrow hdr hob hsrc)
     have hrow := Lib.hid (show (w9).ownsRow (w.heap.size + 1) 47 5 (.slice (some ⟨g9, 0, none⟩) (out.length + 1) c9) (out.length + 1) (flatEv (out ++ [y])) by simpa [flatEv, cev] using Rw9.out)
     have hbx := Lib.hid ((Fw9.out.block B (Array.getElem?_eq_some_iff.1 hbx.out).1 (fun h => by have := (Lw9.out B h).1; have := Hb.out; omega)).trans hbx.out)
     have hfr := Lib.hid (hfr.out.trans' Fw9.out (fun i hi h => by have := (Lw9.out i h).1; omega))
     clear x0 x1 x2 x3 x4
     go_roundw
     case rel => exact ⟨k + 1, _, _, by omega, by go_num, rfl, Hst, by simpa using hrow, hbx, hfr⟩
     case measure => simp [Go.RowKit.intOf]; omega
  ·have hkn : k = n := by omega
   subst hkn
   have hrun' := hrun.out
   rw [List.take_of_length_le (by rw [Hl.out]; exact Nat.le_refl _)] at hrun'
   have hwe : withE x E = if b then out else out ++ [x] := by unfold withE; rw [hrun']
   cases b with
   | true =>
    rw [if_pos rfl] at hwe
    have hfin := Lib.hid (show wr.ownsRow w.heap.size 47 5 (.slice va out.length vc) (withE x E).length (flatEv (withE x E)) by rw [hwe]; exact own_low hrow.out (by omega))
    clear hwe hrun'
    go_wp2_with fail
    go_ret
    exact ⟨_, rfl, hfin.out, hfr.out⟩
   | false =>
    rw [if_neg (by simp)] at hwe
    have hW := Lib.hid hwe
    clear hwe hrun'
    have hsrc := Src.newRow (P := Try.prog) (size := 5) (tx := 24) (ty := 47) wr Try.underlying24 1 1 (cev x) rfl (by simp [Value.oneCell', cev])
    simp only [cev] at hsrc
    have hbase : w.heap.size + 1 ≤ (wr).heap.size := by have h1 := (Array.getElem?_eq_some_iff.1 hbx.out).1; have := Hb.out; omega
    go_wp2_with (at_builtin; refine wpList_append_k rfl _ _ 24 24 rfl (w.heap.size + 1) 47 i0 (.agg #[.int .i64 0, .int .i64 0, .int .i64 0, .int .i64 0, .int .i64 0]) 5 40 Try.underlying24 hi hz0 hz1 hz2 rfl (by decide) (Value.slice va out.length vc) (out.length) _ rfl (ownsRow_fr0 hrow.out ((Fr0.refl none' wr).alloc _) (fun _ _ h => h)) (.slice (some ⟨(wr).heap.size, 0, none⟩) 1 1) 1 _ rfl hsrc (by unfold maxLen; omega) (by omega) (by simp; omega) ?_; intro v9 w9 hown hgrow hdr hob; obtain ⟨g9, c9, rfl⟩ := ownsRow_k_succ hown; have Lw9 := Lib.hid hrow.out.lt; have Fw9 := Lib.hid (show Fr0 (fun i => (Value.slice va out.length vc).ownBlock = some i) wr w9 from ((Fr0.refl _ wr).alloc _).grown hgrow (fun i hi _ => hi)); have Rw9 := Lib.hid hown; clear hown hgrow hdr hob hsrc)
    have hrow := Lib.hid (show (w9).ownsRow (w.heap.size + 1) 47 5 (.slice (some ⟨g9, 0, none⟩) (out.length + 1) c9) (out.length + 1) (flatEv (out ++ [x])) by simpa [flatEv, cev] using Rw9.out)
    have hbx := Lib.hid ((Fw9.out.block B (Array.getElem?_eq_some_iff.1 hbx.out).1 (fun h => by have := (Lw9.out B h).1; have := Hb.out; omega)).trans hbx.out)
    have hfr := Lib.hid (hfr.out.trans' Fw9.out (fun i hi h => by have := (Lw9.out i h).1; omega))
    go_ret
    refine ⟨_, rfl, ?_, hfr.out⟩
    rw [hW.out, List.length_append, List.length_singleton]
    exact own_low hrow.out (by omega)
end Go.Proofs.Ytmbjfmlicffclaa

/-
  The reference of layer 10: Take, Find.
-/
namespace Go.Proofs.Ytmbjfmlicffclaa
open Go Go.RowKit
attribute [local go_sem ↓] Go.wp_at_zero Go.wp_at_succ
attribute [local go_sem] Oper.semAt_some wide_fn wide_depth wide_fnR wide_depthR

/-- A queue of the reference: its capacity, its events in a row that lies in the old one's block, or in a new one. -/
def RAt (w' : World) (a : Option Addr) (N : Nat) (c : Int) (E : List Ev) (v : Value) : Prop := ∃ a' cap, v = .agg #[.int .i64 c, .slice a' E.length cap] ∧ E.length ≤ cap ∧ EsIn w' a' E ∧ ∀ g o s, a' = some ⟨g, o, s⟩ → (∃ o' s', a = some ⟨g, o', s'⟩) ∨ (N ≤ g ∧ g < w'.heap.size)
theorem RAt.same {w w' : World} {a : Option Addr} {N cap : Nat} {c : Int} {E : List Ev} (h : EsIn w a E) (hf : Fr0 none' w w') (hc : E.length ≤ cap) : RAt w' a N c E (.agg #[.int .i64 c, .slice a E.length cap]) :=
 ⟨a, cap, rfl, hc, h.later hf, fun g o s e => .inl ⟨o, s, e⟩⟩
theorem RAt.own {w' : World} {a : Option Addr} {base N : Nat} {c : Int} {E : List Ev} {v : Value} (h : w'.ownsRow base 47 5 v E.length (flatEv E)) (hb : N ≤ base) : RAt w' a N c E (.agg #[.int .i64 c, v]) := by
 have hlt := h.lt
 have hcap : ∀ a' cap, v = .slice a' E.length cap → E.length ≤ cap := fun a' cap hv => by
  rcases h.2 with ⟨h0, h1⟩ | ⟨g, cap', cur, hv', _, _, hn, _⟩
  ·omega
  ·rw [hv] at hv'; injection hv' with _ _ h; omega
 have hown := h.2
 obtain ⟨a', cap, rfl, _, he⟩ := EsIn.of_own h
 refine ⟨a', cap, rfl, hcap a' cap rfl, he, fun g o s e => .inr ?_⟩
 rcases hown with ⟨h0, h1⟩ | ⟨g', cap', cur, hv', hg, _⟩
 ·injection h0 with h0 _ _
  rw [h0] at e; cases e
 ·injection hv' with h1 _ _
  rw [h1] at e
  injection e with e
  injection e with e1 _ _
  subst e1
  have := hlt g' (by rw [h1]; rfl)
  omega
theorem RAt.rest {w w' : World} {a : Option Addr} {N cap m : Nat} {c : Int} {E : List Ev} (h : EsIn w a E) (hl : E.length = m) (hf : Fr0 none' w w') (hc : m ≤ cap) (n : Nat) (hn : n ≤ m) : RAt w' a N c (E.drop n) (.agg #[.int .i64 c, .slice (dR cap n a) (m - n) (cap - n)]) := by
 subst hl
 refine ⟨dR cap n a, cap - n, by rw [List.length_drop], by rw [List.length_drop]; omega, (h.later hf).restR hc n, fun g o s e => .inl ?_⟩
 unfold dR at e
 split at e
 ·exact ⟨o, s, e⟩
 ·cases a with
  | none => cases e
  | some A =>
   rw [Option.map_some] at e
   injection e with e
   have hb : (A.add (n * 5)).block = A.block := by unfold Addr.add; split <;> rfl
   rw [e] at hb
   obtain ⟨g', o', s'⟩ := A
   simp only at hb
   subst hb
   exact ⟨o', s', rfl⟩
set_option maxRecDepth 100000 in
set_option maxHeartbeats 2000000 in
theorem rTake_nil {w : World} {a : Option Addr} {cap : Nat} (c : Int) :
  Calls Try.prog 96 #[.agg #[.int .i64 c, .slice a 0 cap]] w fun e w' => e = .returned (.tuple #[.agg #[.int .i64 c, .slice a 0 cap], evV ⟨⟨0, 0, 0⟩, 0, 0⟩, .int .i64 6]) ∧ Fr0 none' w w' := by
 obtain ⟨m, hm⟩ : ∃ m, 0 = m := ⟨_, rfl⟩
 unfold evV
 rw [hm]
 have d1 : (((m : Nat) : Int) == 0) = true := by rw [← hm]; rfl
 clear hm
 go_enter Try.func96, Try.ntmps96
 go_wp2_with fail
 exact bodyPost_ret (v := .tuple #[.agg #[.int .i64 c, .slice a m cap], .agg #[.int .i64 0, .int .i64 0, .int .i64 0, .int .i64 0, .int .i64 0], .int .i64 6]) (by simp [results, Try.results96, go_sem]) rfl ⟨rfl, (((Fr0.refl _ _).alloc _).alloc _).alloc _⟩
set_option maxRecDepth 100000 in
set_option maxHeartbeats 2000000 in
theorem rTake_some {w : World} {a : Option Addr} {m cap : Nat} (c : Int) (x : Ev) (E : List Ev) (h : EsIn w a (x :: E)) (hl : E.length + 1 = m) (hm : m ≤ 1000) (hc : m ≤ cap) :
  Calls Try.prog 96 #[.agg #[.int .i64 c, .slice a m cap]] w fun e w' => ∃ v, e = .returned (.tuple #[v, evV x, .int .i64 0]) ∧ RAt w' a w.heap.size c E v ∧ Fr0 none' w w' := by
 have H := Lib.hid h
 have Hl := Lib.hid hl
 have d1 : ((m : Int) == 0) = false := beq_eq_false_iff_ne.2 (by omega)
 clear h hl
 unfold evV
 go_enter Try.func96, Try.ntmps96
 go_wp2_with fail
 obtain ⟨SB, hSB⟩ : ∃ B, w.heap.size = B := ⟨_, rfl⟩
 obtain ⟨W1, hW1⟩ : ∃ W, w.alloc (.cells #[.int .i64 c, .slice a m cap] 135) = W := ⟨_, rfl⟩
 have HS := Lib.hid (show W1.heap[SB]? = some (.cells #[.int .i64 c, .slice a m cap] 135 (0, 0)) by rw [← hW1, ← hSB]; exact World.alloc_heap_new w _)
 have HF := Lib.hid (show Fr0 none' w W1 by rw [← hW1]; exact (Fr0.refl _ _).alloc _)
 rw [hW1]
 try rw [hSB]
 have HSB := Lib.hid hSB
 have HSz := Lib.hid (show W1.heap.size = SB + 1 by rw [← hW1, World.size_alloc, hSB])
 clear hW1 hSB
 have s0 := cells_in HS.out 0
 have s1 := cells_in HS.out 1
 simp at s0 s1
 go_wp2_with fail
 obtain ⟨W3, hW3⟩ : ∃ W, (W1.alloc (.cells #[.int .i64 0, .slice none 0 0] 135)).alloc (.cells #[.int .i64 0, .int .i64 0, .int .i64 0, .int .i64 0, .int .i64 0] 47) = W := ⟨_, rfl⟩
 have h3 : Fr0 none' W1 W3 := by rw [← hW3]; exact ((Fr0.refl _ _).alloc _).alloc _
 have HR1 := Lib.hid (show W3.heap[SB + 1]? = some (.cells #[.int .i64 0, .slice none 0 0] 135 (0, 0)) by
  rw [← hW3, ← HSz.out]
  exact ((((Fr0.refl none' (W1.alloc (.cells #[.int .i64 0, .slice none 0 0] 135))).alloc _).block W1.heap.size (by rw [World.size_alloc]; omega) id)).trans (World.alloc_heap_new W1 _))
 have HR2 := Lib.hid (show W3.heap[SB + 1 + 1]? = some (.cells #[.int .i64 0, .int .i64 0, .int .i64 0, .int .i64 0, .int .i64 0] 47 (0, 0)) by
  have h7 := World.alloc_heap_new (W1.alloc (.cells #[.int .i64 0, .slice none 0 0] 135)) (.cells #[.int .i64 0, .int .i64 0, .int .i64 0, .int .i64 0, .int .i64 0] 47)
  rw [World.size_alloc, HSz.out] at h7
  rw [← hW3]
  exact h7)
 have HS3 := Lib.hid ((h3.block SB (Array.getElem?_eq_some_iff.1 HS.out).1 id).trans HS.out)
 have HF3 := Lib.hid (HF.out.trans h3)
 rw [hW3]
 clear hW3 h3 s0 s1
 obtain ⟨g, o, rfl, hat⟩ := H.out 0 x rfl
 rw [Nat.zero_mul, Nat.add_zero] at hat
 have hgl : ∀ b, w.heap.size ≤ b → g ≠ b := fun b hb e => by
  have := World.block_lt_of_cell? _ _ hat.1
  simp only at this
  omega
 have hat3 := hat.later HF3.out
 have HZ := Lib.hid (fun (W' : World) (hf : Fr0 (fun k => k = SB + 1 ∨ k = SB + 1 + 1) W3 W') => (show W'.cell? ⟨SB, 0, none⟩ = some (.int .i64 c) ∧ W'.cell? ⟨SB, 1, none⟩ = some (.slice (some ⟨g, o, none⟩) m cap) ∧ EAt W' g o x from by
  have h7 := (hf.block SB (Array.getElem?_eq_some_iff.1 HS3.out).1 (fun h => by rcases h with h | h <;> omega)).trans HS3.out
  have s0 := cells_in h7 0
  have s1 := cells_in h7 1
  simp at s0 s1
  exact ⟨s0, s1, hat3.fr0 hf (fun h => by have h8 := HSB.out; rcases h with h | h <;> exact hgl _ (by omega) h)⟩))
 have hdR : (if cap = 1 then some (⟨g, o, none⟩ : Addr) else some ⟨g, o + 5, none⟩) = dR cap 1 (some ⟨g, o, none⟩) := rfl
 have hlm := Hl.out
 have m1 : (1 : Int) ≤ (m : Int) := by omega
 have m2 : (m : Int) ≤ (cap : Int) := by omega
 have m3 : (0 : Int) < (m : Int) := by omega
 clear hlm
 refine wp_region_held_drew (S := fun W' => Fr0 (fun k => k = SB + 1 ∨ k = SB + 1 + 1) W3 W') (by kernel_rfl) ((Fr0.refl _ W3).drew) (fun hHeld => ?_)
 refine tkn (i := 0) (v := .pointer (some ⟨SB, 0, none⟩)) (fun W' hSW => ?_) ?_
 ·obtain ⟨s0, s1, b0, b1, b2, b3, b4⟩ := HZ.out W' hSW
  first | (go_simp; done) | exact rfl | (go_simp; rfl) | (go_simp; omega)
 try simp only [pUt, pUn, sEt, sEz, sEs]
 refine tkn (i := 1) (v := .int .i64 c) (fun W' hSW => ?_) ?_
 ·obtain ⟨s0, s1, b0, b1, b2, b3, b4⟩ := HZ.out W' hSW
  first | (go_simp; done) | exact rfl | (go_simp; rfl) | (go_simp; omega)
 try simp only [pUt, pUn, sEt, sEz, sEs]
 refine tkn (i := 2) (v := .pointer (some ⟨SB, 1, none⟩)) (fun W' hSW => ?_) ?_
 ·obtain ⟨s0, s1, b0, b1, b2, b3, b4⟩ := HZ.out W' hSW
  first | (go_simp; done) | exact rfl | (go_simp; rfl) | (go_simp; omega)
 try simp only [pUt, pUn, sEt, sEz, sEs]
 refine tkn (i := 3) (v := .slice (some ⟨g, o, none⟩) m cap) (fun W' hSW => ?_) ?_
 ·obtain ⟨s0, s1, b0, b1, b2, b3, b4⟩ := HZ.out W' hSW
  first | (go_simp; done) | exact rfl | (go_simp; rfl) | (go_simp; omega)
 try simp only [pUt, pUn, sEt, sEz, sEs]
 refine tkn (i := 4) (v := .slice (dR cap 1 (some ⟨g, o, none⟩)) (m - 1) (cap - 1)) (fun W' hSW => ?_) ?_
 ·obtain ⟨s0, s1, b0, b1, b2, b3, b4⟩ := HZ.out W' hSW
  first | (go_simp; done) | exact rfl | (go_simp; rfl) | (go_simp; omega)
 try simp only [pUt, pUn, sEt, sEz, sEs]
 refine tkn (i := 5) (v := .agg #[.int .i64 c, .slice (dR cap 1 (some ⟨g, o, none⟩)) (m - 1) (cap - 1)]) (fun W' hSW => ?_) ?_
 ·obtain ⟨s0, s1, b0, b1, b2, b3, b4⟩ := HZ.out W' hSW
  first | (go_simp; done) | exact rfl | (go_simp; rfl) | (go_simp; omega)
 try simp only [pUt, pUn, sEt, sEz, sEs]
 refine tkn (i := 6) (v := .pointer (some ⟨SB, 1, none⟩)) (fun W' hSW => ?_) ?_
 ·obtain ⟨s0, s1, b0, b1, b2, b3, b4⟩ := HZ.out W' hSW
  first | (go_simp; done) | exact rfl | (go_simp; rfl) | (go_simp; omega)
 try simp only [pUt, pUn, sEt, sEz, sEs]
 refine tkn (i := 7) (v := .slice (some ⟨g, o, none⟩) m cap) (fun W' hSW => ?_) ?_
 ·obtain ⟨s0, s1, b0, b1, b2, b3, b4⟩ := HZ.out W' hSW
  first | (go_simp; done) | exact rfl | (go_simp; rfl) | (go_simp; omega)
 try simp only [pUt, pUn, sEt, sEz, sEs]
 refine tkn (i := 8) (v := .pointer (some ⟨g, o, none⟩)) (fun W' hSW => ?_) ?_
 ·obtain ⟨s0, s1, b0, b1, b2, b3, b4⟩ := HZ.out W' hSW
  first | (go_simp; done) | exact rfl | (go_simp; rfl) | (go_simp; omega)
 try simp only [pUt, pUn, sEt, sEz, sEs]
 refine tkn (i := 9) (v := .agg #[.int .i64 x.key.time, .int .i64 x.key.source, .int .i64 x.key.seq, .int .i64 x.to, .int .i64 x.value]) (fun W' hSW => ?_) ?_
 ·obtain ⟨s0, s1, b0, b1, b2, b3, b4⟩ := HZ.out W' hSW
  first | (go_simp; done) | exact rfl | (go_simp; rfl) | (go_simp; omega)
 try simp only [pUt, pUn, sEt, sEz, sEs]
 refine take_call (i := 10) rfl (by kernel_rfl) (by kernel_rfl) (fun K hK => ?_)
 have t0 := thaw_in HR1.out 0
 have t1 := thaw_in HR1.out 1
 have u0 := cells_in HR1.out 0
 have u1 := cells_in HR1.out 1
 simp at u0 u1
 go_simp
 obtain ⟨W5, hW5⟩ : ∃ W, (W3.setCell ⟨SB + 1, 0, none⟩ (.int .i64 c)).setCell ⟨SB + 1, 1, none⟩ (.slice (dR cap 1 (some ⟨g, o, none⟩)) (m - 1) (cap - 1)) = W := ⟨_, rfl⟩
 have f5 : Fr0 (fun k => k = SB + 1 ∨ k = SB + 1 + 1) W3 W5 := by rw [← hW5]; exact ((Fr0.refl (fun k => k = SB + 1 ∨ k = SB + 1 + 1) W3).setCell (fun _ => .inl rfl) _).setCell (fun _ => .inl rfl) _
 have HQ1 := Lib.hid (show W5.heap[SB + 1]? = some (.cells #[.int .i64 c, .slice (dR cap 1 (some ⟨g, o, none⟩)) (m - 1) (cap - 1)] 135 (0, 0)) by rw [← hW5]; exact heap_set_cell (heap_set_cell HR1.out _) _)
 have HQ2 := Lib.hid ((Fr0.block (show Fr0 (fun k => k = SB + 1) W3 W5 by rw [← hW5]; exact ((Fr0.refl (fun k => k = SB + 1) W3).setCell (fun _ => rfl) _).setCell (fun _ => rfl) _) (SB + 1 + 1) (Array.getElem?_eq_some_iff.1 HR2.out).1 (fun e => by omega)).trans HR2.out)
 rw [hW5]
 refine hK.out _ _ f5.drew (fun hS => ?_)
 clear hK K hW5 t0 t1 u0 u1
 try simp only [pUt, pUn, sEt, sEz, sEs]
 refine take_call (i := 11) rfl (by kernel_rfl) (by kernel_rfl) (fun K hK => ?_)
 have t0 := thaw_in HQ2.out 0
 have t1 := thaw_in HQ2.out 1
 have t2 := thaw_in HQ2.out 2
 have t3 := thaw_in HQ2.out 3
 have t4 := thaw_in HQ2.out 4
 have u0 := cells_in HQ2.out 0
 have u1 := cells_in HQ2.out 1
 have u2 := cells_in HQ2.out 2
 have u3 := cells_in HQ2.out 3
 have u4 := cells_in HQ2.out 4
 simp at u0 u1 u2 u3 u4
 go_simp
 obtain ⟨W6, hW6⟩ : ∃ W, ((((W5.setCell ⟨SB + 1 + 1, 0, none⟩ (.int .i64 (x).key.time)).setCell ⟨SB + 1 + 1, 1, none⟩ (.int .i64 (x).key.source)).setCell ⟨SB + 1 + 1, 2, none⟩ (.int .i64 (x).key.seq)).setCell ⟨SB + 1 + 1, 3, none⟩ (.int .i64 (x).to)).setCell ⟨SB + 1 + 1, 4, none⟩ (.int .i64 (x).value) = W := ⟨_, rfl⟩
 have f56 : Fr0 (fun k => k = SB + 1 + 1) W5 W6 := by rw [← hW6]; exact (((((Fr0.refl (fun k => k = SB + 1 + 1) W5).setCell (fun _ => rfl) _).setCell (fun _ => rfl) _).setCell (fun _ => rfl) _).setCell (fun _ => rfl) _).setCell (fun _ => rfl) _
 have f6 : Fr0 (fun k => k = SB + 1 ∨ k = SB + 1 + 1) W3 W6 := f5.trans (f56.mono (fun _ _ h => .inr h))
 have HQ1 := Lib.hid ((f56.block (SB + 1) (Array.getElem?_eq_some_iff.1 HQ1.out).1 (fun e => by omega)).trans HQ1.out)
 have HQ2 := Lib.hid (show W6.heap[SB + 1 + 1]? = some (.cells (cev (x)).toArray 47 (0, 0)) by rw [← hW6]; exact heap_set_cell (heap_set_cell (heap_set_cell (heap_set_cell (heap_set_cell HQ2.out _) _) _) _) _)
 rw [hW6]
 refine hK.out _ _ f6.drew (fun hS => ?_)
 clear hK K hW6 t0 t1 t2 t3 t4 u0 u1 u2 u3 u4
 try simp only [pUt, pUn, sEt, sEz, sEs]
 refine tkn (i := 12) (v := .int .i64 0) (fun W' hSW => ?_) ?_
 ·obtain ⟨s0, s1, b0, b1, b2, b3, b4⟩ := HZ.out W' hSW
  first | (go_simp; done) | exact rfl | (go_simp; rfl) | (go_simp; omega)
 try simp only [pUt, pUn, sEt, sEz, sEs]
 refine wpAnyH_done (by kernel_rfl) ?_ _
 clear hHeld
 have r0 := cells_in HQ1.out 0
 have r1 := cells_in HQ1.out 1
 simp at r0 r1
 have e0 := cells_in HQ2.out 0
 have e1 := cells_in HQ2.out 1
 have e2 := cells_in HQ2.out 2
 have e3 := cells_in HQ2.out 3
 have e4 := cells_in HQ2.out 4
 simp [cev] at e0 e1 e2 e3 e4
 have HFF := Lib.hid (show Fr0 none' w W6.drew from (HF3.out.trans' f6 (fun k hk h => by have := HSB.out; rcases h with h | h <;> omega)).drew)
 clear f5 f56 f6
 go_wp2_with fail
 refine bodyPost_ret (v := .tuple #[.agg #[.int .i64 c, .slice (dR cap 1 (some ⟨g, o, none⟩)) (m - 1) (cap - 1)], .agg #[.int .i64 x.key.time, .int .i64 x.key.source, .int .i64 x.key.seq, .int .i64 x.to, .int .i64 x.value], .int .i64 0]) (by simp [results, Try.results96, go_sem, r0, r1, e0, e1, e2, e3, e4]) rfl ⟨_, rfl, ?_, HFF.out⟩
 exact RAt.rest (n := 1) H.out Hl.out HFF.out hc (by have := Hl.out; omega)
end Go.Proofs.Ytmbjfmlicffclaa

/-
  The reference of layer 10: Put.
-/
namespace Go.Proofs.Ytmbjfmlicffclaa
open Go Go.RowKit
attribute [local go_sem ↓] Go.wp_at_zero Go.wp_at_succ
attribute [local go_sem] Oper.semAt_some wide_fn wide_depth wide_fnR wide_depthR

/-- Where a queue of the reference lies behind a put: as before, or in a new row. -/
def PutAt (w' : World) (a : Option Addr) (N : Nat) (c : Int) (E E' : List Ev) (v : Value) : Prop := (E' = E ∧ RAt w' a N c E v) ∨ RAt w' none N c E' v
theorem PutAt.at {w' : World} {a : Option Addr} {N : Nat} {c : Int} {E E' : List Ev} {v : Value} (h : PutAt w' a N c E E' v) : RAt w' a N c E' v := by
 rcases h with ⟨rfl, h⟩ | ⟨a', cap, h1, h2, h3, h4⟩
 ·exact h
 ·exact ⟨a', cap, h1, h2, h3, fun g o s e => (h4 g o s e).elim (fun ⟨_, _, e⟩ => by cases e) .inr⟩
set_option maxRecDepth 100000 in
set_option maxHeartbeats 2000000 in
theorem rPut_at {w : World} {a : Option Addr} {m cap n : Nat} (E : List Ev) (h : EsIn w a E) (hl : E.length = m) (hm : m ≤ 1000) (hc : m ≤ cap) (hn : m ≤ n) (hn' : n ≤ 256) (x : Ev) :
  Calls Try.prog 95 #[.agg #[.int .i64 n, .slice a m cap], evV x] w fun e w' => ∃ v, e = .returned (.tuple #[v, .int .i64 (allV n E [x]).2]) ∧ PutAt w' a w.heap.size n E (allE n E [x]) v ∧ Fr0 none' w w' := by
 have H := Lib.hid h
 have Hl := Lib.hid hl
 have HR := Lib.hid (rRightE_any x)
 have HE := Lib.hid (fun (W : World) (hf : Fr0 none' w W) => rat_any E (h.later hf) hl (cap := cap) (by omega) x.key.source x.key.seq)
 have HW := Lib.hid (fun (W : World) (hf : Fr0 none' w W) => rwith_any E (h.later hf) hl (cap := cap) (by omega) x)
 have hsame := Lib.hid (fun (W : World) (hf : Fr0 none' w W) => (show RAt W a w.heap.size n E (.agg #[.int .i64 n, .slice a m cap]) by rw [← hl]; exact RAt.same h hf (by omega)))
 clear h hl
 unfold evV at HR HW ⊢
 obtain ⟨V, hV⟩ : ∃ V, (allV n E [x]).2 = V := ⟨_, rfl⟩
 obtain ⟨E', hE'⟩ : ∃ E', allE n E [x] = E' := ⟨_, rfl⟩
 rw [hV, hE']
 have HV := Lib.hid hV
 have HE' := Lib.hid hE'
 clear hV hE'
 go_enter Try.func95, Try.ntmps95
 go_wp2_with fail
 obtain ⟨SB, hSB⟩ : ∃ B, w.heap.size = B := ⟨_, rfl⟩
 obtain ⟨W1, hW1⟩ : ∃ W, w.alloc (.cells #[.int .i64 n, .slice a m cap] 135) = W := ⟨_, rfl⟩
 have hs1 : W1.heap[SB]? = some (.cells #[.int .i64 n, .slice a m cap] 135 (0, 0)) := by rw [← hW1, ← hSB]; exact World.alloc_heap_new w _
 have f1 : Fr0 none' w W1 := by rw [← hW1]; exact (Fr0.refl _ _).alloc _
 have z1 : W1.heap.size = SB + 1 := by rw [← hW1, World.size_alloc, hSB]
 rw [hW1]
 try rw [hSB]
 obtain ⟨W2, hW2⟩ : ∃ W, W1.alloc (.cells #[.int .i64 x.key.time, .int .i64 x.key.source, .int .i64 x.key.seq, .int .i64 x.to, .int .i64 x.value] 47) = W := ⟨_, rfl⟩
 have f2 : Fr0 none' W1 W2 := by rw [← hW2]; exact (Fr0.refl _ _).alloc _
 have hx2 : W2.heap[SB + 1]? = some (.cells (cev x).toArray 47 (0, 0)) := by rw [← hW2, ← z1]; exact World.alloc_heap_new W1 _
 have z2 : W2.heap.size = SB + 1 + 1 := by rw [← hW2, World.size_alloc, z1]
 rw [hW2]
 obtain ⟨W, hW⟩ : ∃ W, W2.alloc (.cells #[.int .i64 0, .slice none 0 0] 135) = W := ⟨_, rfl⟩
 have f3 : Fr0 none' W2 W := by rw [← hW]; exact (Fr0.refl _ _).alloc _
 have HZ := Lib.hid (show W.heap[SB + 1 + 1]? = some (.cells #[.int .i64 0, .slice none 0 0] 135 (0, 0)) by rw [← hW, ← z2]; exact World.alloc_heap_new W2 _)
 have HX := Lib.hid ((f3.block (SB + 1) (Array.getElem?_eq_some_iff.1 hx2).1 id).trans hx2)
 have HS := Lib.hid (((f2.trans f3).block SB (Array.getElem?_eq_some_iff.1 hs1).1 id).trans hs1)
 have HF := Lib.hid ((f1.trans f2).trans f3)
 have HSB := Lib.hid hSB
 rw [hW]
 clear hW1 hSB hs1 f1 hW2 f2 f3 hW z1 z2 hx2
 refine (HR.out _).mono ?_
 rintro e w2 ⟨rfl, hf⟩
 have HS := Lib.hid ((hf.block SB (Array.getElem?_eq_some_iff.1 HS.out).1 id).trans HS.out)
 have HX := Lib.hid ((hf.block (SB + 1) (Array.getElem?_eq_some_iff.1 HX.out).1 id).trans HX.out)
 have HZ := Lib.hid ((hf.block (SB + 1 + 1) (Array.getElem?_eq_some_iff.1 HZ.out).1 id).trans HZ.out)
 have HF := Lib.hid (HF.out.trans hf)
 clear hf
 have s0 := cells_in HS.out 0
 have s1 := cells_in HS.out 1
 simp at s0 s1
 have a0 := cells_in HX.out 0
 have a1 := cells_in HX.out 1
 have a2 := cells_in HX.out 2
 have a3 := cells_in HX.out 3
 have a4 := cells_in HX.out 4
 simp [cev] at a0 a1 a2 a3 a4
 by_cases hr : RightE x
 ·rw [decide_eq_true hr]
  obtain ⟨hv1, hv2, hv3⟩ := one_ok (n := n) (E := E) hr
  rw [HV.out] at hv1
  rw [HE'.out] at hv2
  have Hv1 := Lib.hid hv1
  have Hv2 := Lib.hid hv2
  have Hv3 := Lib.hid hv3
  clear hv1 hv2 hv3 hr
  go_wp2_with fail
  refine (HE.out _ HF.out).mono ?_
  rintro e w3 ⟨rfl, rfl⟩
  obtain ⟨i, hi⟩ : ∃ i, atE (x.key.source, x.key.seq) E = i := ⟨_, rfl⟩
  rw [hi]
  rw [show atE x.name E = i from hi] at Hv1 Hv2 Hv3
  clear hi
  by_cases h0 : 0 ≤ i
  ·have d1 : decide (i ≥ 0) = true := decide_eq_true h0
   have d2 : decide (0 ≤ i) = true := decide_eq_true h0
   have hv1 := Hv1.out
   have hv2 := Hv2.out
   rw [if_pos h0] at hv1 hv2
   have Hw1 := Lib.hid hv1
   have Hw2 := Lib.hid hv2
   clear h0 hv1 hv2
   have t0 := thaw_in HZ.out 0
   have t1 := thaw_in HZ.out 1
   have u0 := cells_in HZ.out 0
   have u1 := cells_in HZ.out 1
   simp at u0 u1
   go_wp2_with fail
   obtain ⟨W6, hW6⟩ : ∃ W, ((w2).setCell ⟨SB + 1 + 1, 0, none⟩ (.int .i64 n)).setCell ⟨SB + 1 + 1, 1, none⟩ (.slice a m cap) = W := ⟨_, rfl⟩
   have hg : SB + 1 + 1 < w.heap.size → none' (SB + 1 + 1) := fun e => by have := HSB.out; omega
   have f6 : Fr0 none' w W6 := by rw [← hW6]; exact (HF.out.setCell hg _).setCell hg _
   have hb6 : W6.heap[SB + 1 + 1]? = some (.cells #[.int .i64 n, .slice a m cap] 135 (0, 0)) := by rw [← hW6]; exact heap_set_cell (heap_set_cell HZ.out _) _
   rw [hW6]
   clear hW6 t0 t1 u0 u1
   have r0 := cells_in hb6 0
   have r1 := cells_in hb6 1
   simp at r0 r1
   refine bodyPost_ret (v := .tuple #[.agg #[.int .i64 n, .slice a m cap], .int .i64 101]) (by simp [results, Try.results95, go_sem, r0, r1]) rfl ⟨_, by rw [Hw1.out], ?_, f6⟩
   rw [Hw2.out]
   exact .inl ⟨rfl, hsame.out _ f6⟩
  ·have d1 : decide (i ≥ 0) = false := decide_eq_false h0
   have d2 : decide (0 ≤ i) = false := decide_eq_false h0
   have hv1 := Hv1.out
   have hv2 := Hv2.out
   have hv3 := Hv3.out (by omega)
   rw [if_neg h0] at hv1 hv2
   have Hv3 := Lib.hid hv3
   have Hlm := Hl.out
   by_cases hfull : n ≤ m
   ·have d3 : decide ((m : Int) ≥ (n : Int)) = true := decide_eq_true (by omega)
    have d4 : decide ((n : Int) ≤ (m : Int)) = true := decide_eq_true (by omega)
    have d5 : decide (n ≤ m) = true := decide_eq_true hfull
    rw [if_pos (by omega)] at hv1 hv2
    have Hw1 := Lib.hid hv1
    have Hw2 := Lib.hid hv2
    clear h0 hv1 hv2 hv3 Hlm hfull
    have t0 := thaw_in HZ.out 0
    have t1 := thaw_in HZ.out 1
    have u0 := cells_in HZ.out 0
    have u1 := cells_in HZ.out 1
    simp at u0 u1
    go_wp2_with fail
    obtain ⟨W6, hW6⟩ : ∃ W, ((w2).setCell ⟨SB + 1 + 1, 0, none⟩ (.int .i64 n)).setCell ⟨SB + 1 + 1, 1, none⟩ (.slice a m cap) = W := ⟨_, rfl⟩
    have hg : SB + 1 + 1 < w.heap.size → none' (SB + 1 + 1) := fun e => by have := HSB.out; omega
    have f6 : Fr0 none' w W6 := by rw [← hW6]; exact (HF.out.setCell hg _).setCell hg _
    have hb6 : W6.heap[SB + 1 + 1]? = some (.cells #[.int .i64 n, .slice a m cap] 135 (0, 0)) := by rw [← hW6]; exact heap_set_cell (heap_set_cell HZ.out _) _
    rw [hW6]
    clear hW6 t0 t1 u0 u1
    have r0 := cells_in hb6 0
    have r1 := cells_in hb6 1
    simp at r0 r1
    refine bodyPost_ret (v := .tuple #[.agg #[.int .i64 n, .slice a m cap], .int .i64 4]) (by simp [results, Try.results95, go_sem, r0, r1]) rfl ⟨_, by rw [Hw1.out], ?_, f6⟩
    rw [Hw2.out]
    exact .inl ⟨rfl, hsame.out _ f6⟩
   ·have d3 : decide ((m : Int) ≥ (n : Int)) = false := decide_eq_false (by omega)
    have d4 : decide ((n : Int) ≤ (m : Int)) = false := decide_eq_false (by omega)
    have d5 : decide (n ≤ m) = false := decide_eq_false hfull
    rw [if_neg (by omega)] at hv1 hv2
    have Hw1 := Lib.hid hv1
    have Hw2 := Lib.hid hv2
    clear h0 hv1 hv2 hv3 Hlm hfull
    go_wp2_with fail
    have Hwe := Lib.hid (withE_ins Hv3.out)
    have HY := Lib.hid (fun (W' : World) (hf : Fr0 (fun k => k = SB + 1 + 1) w2 W') => (show W'.cell? ⟨SB, 0, none⟩ = some (.int .i64 n) ∧ W'.cell? ⟨SB, 1, none⟩ = some (.slice a m cap) ∧ EAt W' (SB + 1) 0 x from by
     have h7 := (hf.block SB (Array.getElem?_eq_some_iff.1 HS.out).1 (fun h => by omega)).trans HS.out
     have h8 := (hf.block (SB + 1) (Array.getElem?_eq_some_iff.1 HX.out).1 (fun h => by omega)).trans HX.out
     have s0 := cells_in h7 0
     have s1 := cells_in h7 1
     have c0 := cells_in h8 0
     have c1 := cells_in h8 1
     have c2 := cells_in h8 2
     have c3 := cells_in h8 3
     have c4 := cells_in h8 4
     simp [cev] at c0 c1 c2 c3 c4
     simp at s0 s1
     exact ⟨s0, s1, c0, c1, c2, c3, c4⟩))
    clear s0 s1 a0 a1 a2 a3 a4
    refine wp_region_held_drew (S := fun W' => Fr0 (fun k => k = SB + 1 + 1) w2 W') (by kernel_rfl) ((Fr0.refl _ w2).drew) (fun hHeld => ?_)
    refine tkn (i := 0) (v := .pointer (some ⟨SB, 0, none⟩)) (fun W' hSW => ?_) ?_
    ·obtain ⟨s0, s1, b0, b1, b2, b3, b4⟩ := HY.out W' hSW
     first | (go_simp; done) | exact rfl | (go_simp; rfl) | (go_simp; omega)
    try simp only [pUt, pUn, sEt, sEz, sEs]
    refine tkn (i := 1) (v := .int .i64 n) (fun W' hSW => ?_) ?_
    ·obtain ⟨s0, s1, b0, b1, b2, b3, b4⟩ := HY.out W' hSW
     first | (go_simp; done) | exact rfl | (go_simp; rfl) | (go_simp; omega)
    try simp only [pUt, pUn, sEt, sEz, sEs]
    refine tkn (i := 2) (v := .pointer (some ⟨SB, 1, none⟩)) (fun W' hSW => ?_) ?_
    ·obtain ⟨s0, s1, b0, b1, b2, b3, b4⟩ := HY.out W' hSW
     first | (go_simp; done) | exact rfl | (go_simp; rfl) | (go_simp; omega)
    try simp only [pUt, pUn, sEt, sEz, sEs]
    refine tkn (i := 3) (v := .slice a m cap) (fun W' hSW => ?_) ?_
    ·obtain ⟨s0, s1, b0, b1, b2, b3, b4⟩ := HY.out W' hSW
     first | (go_simp; done) | exact rfl | (go_simp; rfl) | (go_simp; omega)
    try simp only [pUt, pUn, sEt, sEz, sEs]
    refine tkn (i := 4) (v := .agg #[.int .i64 x.key.time, .int .i64 x.key.source, .int .i64 x.key.seq, .int .i64 x.to, .int .i64 x.value]) (fun W' hSW => ?_) ?_
    ·obtain ⟨s0, s1, b0, b1, b2, b3, b4⟩ := HY.out W' hSW
     first | (go_simp; done) | exact rfl | (go_simp; rfl) | (go_simp; omega)
    try simp only [pUt, pUn, sEt, sEz, sEs]
    refine take_call (i := 5) rfl (by kernel_rfl) (by kernel_rfl) (fun K hK => ?_)
    go_simp
    refine (HW.out _ (HF.out.drew)).mono ?_
    rintro e w5 ⟨v, rfl, hrow, hf⟩
    obtain ⟨va, vc, rfl, _, _⟩ := EsIn.of_own hrow
    have hlt5 := hrow.lt
    have hf2 : Fr0 none' w2 w5 := ((Fr0.refl none' w2).drew).trans hf
    have HRow := Lib.hid hrow
    have hzl : SB + 1 + 1 < w2.heap.size := (Array.getElem?_eq_some_iff.1 HZ.out).1
    have Hzl := Lib.hid hzl
    clear hlt5 hzl
    clear hrow hf
    go_wp2_with fail
    refine hK.out _ _ (hf2.mono (fun _ _ h => h.elim)) (fun hS => ?_)
    clear hK K
    try simp only [pUt, pUn, sEt, sEz, sEs]
    refine tkn (i := 6) (v := .agg #[.int .i64 n, .slice va (withE x E).length vc]) (fun W' hSW => ?_) ?_
    ·obtain ⟨s0, s1, b0, b1, b2, b3, b4⟩ := HY.out W' hSW
     first | (go_simp; done) | exact rfl | (go_simp; rfl) | (go_simp; omega)
    try simp only [pUt, pUn, sEt, sEz, sEs]
    have HZ := Lib.hid ((hf2.block (SB + 1 + 1) (Array.getElem?_eq_some_iff.1 HZ.out).1 id).trans HZ.out)
    have HFw := HF
    have HF := Lib.hid (HF.out.trans hf2)
    have t0 := thaw_in HZ.out 0
    have t1 := thaw_in HZ.out 1
    have u0 := cells_in HZ.out 0
    have u1 := cells_in HZ.out 1
    simp at u0 u1
    refine take_call (i := 7) rfl (by kernel_rfl) (by kernel_rfl) (fun K hK => ?_)
    go_simp
    obtain ⟨W6, hW6⟩ : ∃ W, (w5.setCell ⟨SB + 1 + 1, 0, none⟩ (.int .i64 n)).setCell ⟨SB + 1 + 1, 1, none⟩ (.slice va (withE x E).length vc) = W := ⟨_, rfl⟩
    have hg : SB + 1 + 1 < w.heap.size → none' (SB + 1 + 1) := fun e => by have := HSB.out; omega
    have f6 : Fr0 none' w W6 := by rw [← hW6]; exact (HF.out.setCell hg _).setCell hg _
    have f56 : Fr0 (fun k => k = SB + 1 + 1) w5 W6 := by rw [← hW6]; exact ((Fr0.refl (fun k => k = SB + 1 + 1) w5).setCell (fun _ => rfl) _).setCell (fun _ => rfl) _
    have hb6 : W6.heap[SB + 1 + 1]? = some (.cells #[.int .i64 n, .slice va (withE x E).length vc] 135 (0, 0)) := by rw [← hW6]; exact heap_set_cell (heap_set_cell HZ.out _) _
    rw [hW6]
    refine hK.out _ _ ((hf2.mono (fun _ _ h => h.elim)).trans f56) (fun hS => ?_)
    clear hK K hW6 t0 t1 u0 u1
    try simp only [pUt, pUn, sEt, sEz, sEs]
    refine tkn (i := 8) (v := .int .i64 0) (fun W' hSW => ?_) ?_
    ·obtain ⟨s0, s1, b0, b1, b2, b3, b4⟩ := HY.out W' hSW
     first | (go_simp; done) | exact rfl | (go_simp; rfl) | (go_simp; omega)
    try simp only [pUt, pUn, sEt, sEz, sEs]
    refine wpAnyH_done (by kernel_rfl) ?_ _
    have r0 := cells_in hb6 0
    have r1 := cells_in hb6 1
    simp at r0 r1
    have F56 := Lib.hid f56
    have F6 := Lib.hid f6
    clear f56 f6 hHeld hS
    go_wp2_with fail
    refine bodyPost_ret (v := .tuple #[.agg #[.int .i64 n, .slice va (withE x E).length vc], .int .i64 0]) (by simp [results, Try.results95, go_sem, r0, r1]) rfl ⟨_, by rw [Hw1.out], ?_, F6.out⟩
    rw [Hw2.out, ← Hwe.out]
    exact .inr (RAt.own (ownsRow_fr0 HRow.out F56.out (fun g hg e => by have h7 := (HRow.out.lt g hg).1; have h8 := Hzl.out; have h9 : w2.drew.heap.size = w2.heap.size := rfl; omega)) (show w.heap.size ≤ w2.drew.heap.size from HFw.out.size))
 ·rw [decide_eq_false hr]
  obtain ⟨hv1, hv2⟩ := one_bad (n := n) (E := E) hr
  rw [HV.out] at hv1
  rw [HE'.out] at hv2
  have Hv1 := Lib.hid hv1
  have Hv2 := Lib.hid hv2
  clear hv1 hv2 hr
  have t0 := thaw_in HZ.out 0
  have t1 := thaw_in HZ.out 1
  have u0 := cells_in HZ.out 0
  have u1 := cells_in HZ.out 1
  simp at u0 u1
  go_wp2_with fail
  obtain ⟨W6, hW6⟩ : ∃ W, ((w2).setCell ⟨SB + 1 + 1, 0, none⟩ (.int .i64 n)).setCell ⟨SB + 1 + 1, 1, none⟩ (.slice a m cap) = W := ⟨_, rfl⟩
  have hg : SB + 1 + 1 < w.heap.size → none' (SB + 1 + 1) := fun e => by have := HSB.out; omega
  have f6 : Fr0 none' w W6 := by rw [← hW6]; exact (HF.out.setCell hg _).setCell hg _
  have hb6 : W6.heap[SB + 1 + 1]? = some (.cells #[.int .i64 n, .slice a m cap] 135 (0, 0)) := by rw [← hW6]; exact heap_set_cell (heap_set_cell HZ.out _) _
  rw [hW6]
  clear hW6 t0 t1 u0 u1
  have r0 := cells_in hb6 0
  have r1 := cells_in hb6 1
  simp at r0 r1
  refine bodyPost_ret (v := .tuple #[.agg #[.int .i64 n, .slice a m cap], .int .i64 100]) (by simp [results, Try.results95, go_sem, r0, r1]) rfl ⟨_, by rw [Hv1.out], ?_, f6⟩
  rw [Hv2.out]
  exact .inl ⟨rfl, hsame.out _ f6⟩
set_option maxRecDepth 100000 in
set_option maxHeartbeats 2000000 in
theorem rPut_any {w : World} {a : Option Addr} {m cap n : Nat} (E : List Ev) (h : EsIn w a E) (hl : E.length = m) (hm : m ≤ 1000) (hc : m ≤ cap) (hn : m ≤ n) (hn' : n ≤ 256) (x : Ev) :
  Calls Try.prog 95 #[.agg #[.int .i64 n, .slice a m cap], evV x] w fun e w' => ∃ v, e = .returned (.tuple #[v, .int .i64 (allV n E [x]).2]) ∧ RAt w' a w.heap.size n (allE n E [x]) v ∧ Fr0 none' w w' :=
 (rPut_at E h hl hm hc hn hn' x).mono fun _ _ ⟨v, he, h, hf⟩ => ⟨v, he, h.at, hf⟩
end Go.Proofs.Ytmbjfmlicffclaa

/-
  The reference of layer 10: PutAll.
-/
namespace Go.Proofs.Ytmbjfmlicffclaa
open Go Go.RowKit
attribute [local go_sem ↓] Go.wp_at_zero Go.wp_at_succ
attribute [local go_sem] Oper.semAt_some wide_fn wide_depth wide_fnR wide_depthR

theorem RAt.base {w1 w2 : World} {a a' : Option Addr} {N N' : Nat} {c : Int} {E : List Ev} {v : Value} (h : RAt w2 a' N' c E v) (h0 : ∀ g o s, a' = some ⟨g, o, s⟩ → (∃ o' s', a = some ⟨g, o', s'⟩) ∨ (N ≤ g ∧ g < w1.heap.size)) (hN : N ≤ N') (hs : w1.heap.size ≤ w2.heap.size) : RAt w2 a N c E v := by
 obtain ⟨b, cap, h1, h2, h3, h4⟩ := h
 refine ⟨b, cap, h1, h2, h3, fun g o s e => ?_⟩
 rcases h4 g o s e with ⟨o', s', e'⟩ | h5
 ·rcases h0 g o' s' e' with h6 | h6
  ·exact .inl h6
  ·exact .inr (by omega)
 ·exact .inr (by omega)
set_option maxRecDepth 100000 in
set_option maxHeartbeats 2000000 in
theorem rPutAll_any {w : World} {a la : Option Addr} {m cap n k lc : Nat} (E l : List Ev) (h : EsIn w a E) (hl : E.length = m) (hm : m ≤ 1000) (hc : m ≤ cap) (hn : m ≤ n) (hn' : n ≤ 256) (hll : EsIn w la l) (hlk : l.length = k) (hk : k ≤ 1000) (hlc : k ≤ lc) (hal : ∀ g o s, a = some ⟨g, o, s⟩ → g < w.heap.size) (hoE : OnceE E) :
  Calls Try.prog 77 #[.agg #[.int .i64 n, .slice a m cap], .slice la k lc] w fun e w' => ∃ v, e = .returned (.tuple #[v, .int .i64 (allV n E l).1, .int .i64 (allV n E l).2]) ∧ RAt w' a w.heap.size n (allE n E l) v ∧ Fr0 none' w w' := by
 have H := Lib.hid h
 have Hl := Lib.hid hl
 have Hk := Lib.hid hlk
 have HLl := Lib.hid hll
 have hsame := Lib.hid (fun (W : World) (hf : Fr0 none' w W) => (show RAt W a w.heap.size n E (.agg #[.int .i64 n, .slice a m cap]) by rw [← hl]; exact RAt.same h hf (by omega)))
 have hsame2 := Lib.hid (fun (W : World) (hf : Fr0 none' w W) => (show RAt W a (w.heap.size + 2) n E (.agg #[.int .i64 n, .slice a m cap]) by rw [← hl]; exact RAt.same h hf (by omega)))
 have HOe := Lib.hid hoE
 have Hal := Lib.hid hal
 clear h hl hll hlk hal hoE
 obtain ⟨V, hV⟩ : ∃ V, allV n E l = V := ⟨_, rfl⟩
 obtain ⟨E', hE'⟩ : ∃ E', allE n E l = E' := ⟨_, rfl⟩
 rw [hV, hE']
 have HV := Lib.hid hV
 have HE' := Lib.hid hE'
 clear hV hE'
 go_enter Try.func77, Try.ntmps77
 go_wp2_with fail
 obtain ⟨SB, hSB⟩ : ∃ B, w.heap.size = B := ⟨_, rfl⟩
 obtain ⟨W1, hW1⟩ : ∃ W, w.alloc (.cells #[.int .i64 n, .slice a m cap] 135) = W := ⟨_, rfl⟩
 have hs1 : W1.heap[SB]? = some (.cells #[.int .i64 n, .slice a m cap] 135 (0, 0)) := by rw [← hW1, ← hSB]; exact World.alloc_heap_new w _
 have f1 : Fr0 none' w W1 := by rw [← hW1]; exact (Fr0.refl _ _).alloc _
 have z1 : W1.heap.size = SB + 1 := by rw [← hW1, World.size_alloc, hSB]
 rw [hW1]
 try rw [hSB]
 obtain ⟨W, hW⟩ : ∃ W, W1.alloc (.cells #[.int .i64 0, .slice none 0 0] 135) = W := ⟨_, rfl⟩
 have f3 : Fr0 none' W1 W := by rw [← hW]; exact (Fr0.refl _ _).alloc _
 have HZ := Lib.hid (show W.heap[SB + 1]? = some (.cells #[.int .i64 0, .slice none 0 0] 135 (0, 0)) by rw [← hW, ← z1]; exact World.alloc_heap_new W1 _)
 have HS := Lib.hid ((f3.block SB (Array.getElem?_eq_some_iff.1 hs1).1 id).trans hs1)
 have HF := Lib.hid (f1.trans f3)
 rw [hSB] at hsame2
 have HSB := Lib.hid hSB
 rw [hW]
 clear hW1 hSB hs1 f1 f3 hW z1
 go_loopw [7] (fun v7 wr => ∃ i : Nat, i ≤ k ∧ v7 = .int .i64 i ∧ Hid (∀ y ∈ l.take i, RightE y) ∧ Hid (wr.heap[SB]? = some (.cells #[.int .i64 n, .slice a m cap] 135 (0, 0))) ∧ Hid (wr.heap[SB + 1]? = some (.cells #[.int .i64 0, .slice none 0 0] 135 (0, 0))) ∧ Hid (Fr0 none' w wr)) (fun v7 _ => k - (Go.RowKit.intOf v7).toNat)
 case atStart => exact ⟨0, Nat.zero_le _, rfl, by unfold Hid; simp, HS, HZ, HF⟩
 case round =>
  obtain ⟨i, hi, rfl, HP, HS, HZ, HF⟩ := hrel
  by_cases hlt : i < k
  ·obtain ⟨x, hx⟩ : ∃ x, l[i]? = some x := ⟨_, List.getElem?_eq_getElem (by rw [Hk.out]; exact hlt)⟩
   obtain ⟨g2, o, rfl, hxc⟩ := HLl.out i x hx
   obtain ⟨x0, x1, x2, x3, x4⟩ := hxc.later HF.out
   have k1 : (0 : Int) ≤ (i : Int) := by omega
   have k2 : (i : Int) < (k : Int) := by omega
   have Hx := Lib.hid hx
   have HR := Lib.hid (rRightE_any x)
   unfold evV at HR
   clear hx hxc
   go_wp2_with fail
   refine (HR.out _).mono ?_
   rintro e w2 ⟨rfl, hf⟩
   clear x0 x1 x2 x3 x4
   have HS := Lib.hid ((hf.block SB (Array.getElem?_eq_some_iff.1 HS.out).1 id).trans HS.out)
   have HZ := Lib.hid ((hf.block (SB + 1) (Array.getElem?_eq_some_iff.1 HZ.out).1 id).trans HZ.out)
   have HF := Lib.hid (HF.out.trans hf)
   clear hf
   by_cases hr : RightE x
   ·rw [decide_eq_true hr]
    have HP1 := Lib.hid (show ∀ y ∈ l.take (i + 1), RightE y from fun y hy => by
     rw [List.take_add_one, Hx.out, List.mem_append] at hy
     rcases hy with hy | hy
     ·exact HP.out y hy
     ·simp at hy; subst hy; exact hr)
    clear hr
    go_wp2_with fail
    go_roundw
    case rel => exact ⟨i + 1, by omega, by go_num, HP1, HS, HZ, HF⟩
    case measure => simp [Go.RowKit.intOf]; omega
   ·rw [decide_eq_false hr]
    obtain ⟨ea, eb⟩ := allV_bad (n := n) (E := E) HP.out Hx.out hr
    have hv := HV.out
    have he := HE'.out
    rw [ea] at hv
    rw [eb] at he
    subst hv
    subst he
    clear hr ea eb
    have t0 := thaw_in HZ.out 0
    have t1 := thaw_in HZ.out 1
    have s0 := cells_in HS.out 0
    have s1 := cells_in HS.out 1
    have u0 := cells_in HZ.out 0
    have u1 := cells_in HZ.out 1
    simp at u0 u1 s0 s1
    go_wp2_with fail
    obtain ⟨W6, hW6⟩ : ∃ W, ((w2).setCell ⟨SB + 1, 0, none⟩ (.int .i64 n)).setCell ⟨SB + 1, 1, none⟩ (.slice a m cap) = W := ⟨_, rfl⟩
    have hg : SB + 1 < w.heap.size → none' (SB + 1) := fun e => by have := HSB.out; omega
    have f6 : Fr0 none' w W6 := by rw [← hW6]; exact (HF.out.setCell hg _).setCell hg _
    have hb6 : W6.heap[SB + 1]? = some (.cells #[.int .i64 n, .slice a m cap] 135 (0, 0)) := by rw [← hW6]; exact heap_set_cell (heap_set_cell HZ.out _) _
    have f7 : Fr0 (fun k => k = SB + 1) (w2) W6 := by rw [← hW6]; exact ((Fr0.refl (fun k => k = SB + 1) (w2)).setCell (fun _ => rfl) _).setCell (fun _ => rfl) _
    rw [hW6]
    clear hW6 t0 t1 u0 u1
    have r0 := cells_in hb6 0
    have r1 := cells_in hb6 1
    simp at r0 r1
    refine bodyPost_ret (v := .tuple #[.agg #[.int .i64 n, .slice a m cap], .int .i64 i, .int .i64 100]) (by simp [results, Try.results77, go_sem, r0, r1]) rfl ⟨_, by first | rfl | rw [rfl], ?_, f6⟩
    exact hsame.out _ f6
  ·have hall := HP.out
   rw [List.take_of_length_le (by rw [Hk.out]; omega)] at hall
   have HRa := Lib.hid hall
   clear hall
   go_wp2_with fail
   clear HP
   go_loopw [8, 9] (fun v8 _ wr => ∃ i : Nat, i ≤ k ∧ v8 = .int .i64 i ∧ Hid (∀ t, t < i → dupB E l t = false) ∧ Hid (wr.heap[SB]? = some (.cells #[.int .i64 n, .slice a m cap] 135 (0, 0))) ∧ Hid (wr.heap[SB + 1]? = some (.cells #[.int .i64 0, .slice none 0 0] 135 (0, 0))) ∧ Hid (Fr0 none' w wr)) (fun v8 _ _ => k - (Go.RowKit.intOf v8).toNat)
   case atStart => exact ⟨0, Nat.zero_le _, rfl, (fun t ht => by omega), HS, HZ, HF⟩
   case round =>
    clear hlt hi
    obtain ⟨i, hi, rfl, HP, HS, HZ, HF⟩ := hrel
    by_cases hlt : i < k
    ·obtain ⟨x, hx⟩ : ∃ x, l[i]? = some x := ⟨_, List.getElem?_eq_getElem (by rw [Hk.out]; exact hlt)⟩
     obtain ⟨g2, o, rfl, hxc⟩ := HLl.out i x hx
     obtain ⟨x0, x1, x2, x3, x4⟩ := hxc.later HF.out
     have k1 : (0 : Int) ≤ (i : Int) := by omega
     have k2 : (i : Int) < (k : Int) := by omega
     have k3 : (i : Int) ≤ (lc : Int) := by omega
     have Hx := Lib.hid hx
     clear hx hxc
     go_wp2_with fail
     obtain ⟨kb, hkb⟩ : ∃ b, wr.heap.size = b := ⟨_, rfl⟩
     obtain ⟨W5, hW5⟩ : ∃ W, wr.alloc (.cells #[.int .i64 x.key.time, .int .i64 x.key.source, .int .i64 x.key.seq] 45) = W := ⟨_, rfl⟩
     have hK5 : W5.heap[kb]? = some (.cells #[.int .i64 x.key.time, .int .i64 x.key.source, .int .i64 x.key.seq] 45 (0, 0)) := by rw [← hW5, ← hkb]; exact World.alloc_heap_new _ _
     have hf : Fr0 none' wr W5 := by rw [← hW5]; exact (Fr0.refl _ _).alloc _
     rw [hW5]
     try rw [hkb]
     clear hW5 hkb x0 x1 x2 x3 x4
     have HS := Lib.hid ((hf.block SB (Array.getElem?_eq_some_iff.1 HS.out).1 id).trans HS.out)
     have HZ := Lib.hid ((hf.block (SB + 1) (Array.getElem?_eq_some_iff.1 HZ.out).1 id).trans HZ.out)
     have HF := Lib.hid (HF.out.trans hf)
     clear hf
     have HY := Lib.hid (fun (W' : World) (hf : Fr0 none' W5 W') => (show W'.cell? ⟨SB, 1, none⟩ = some (.slice a m cap) ∧ W'.cell? ⟨kb, 0, none⟩ = some (.int .i64 x.key.time) ∧ W'.cell? ⟨kb, 1, none⟩ = some (.int .i64 x.key.source) ∧ W'.cell? ⟨kb, 2, none⟩ = some (.int .i64 x.key.seq) from by
      have h7 := (hf.block SB (Array.getElem?_eq_some_iff.1 HS.out).1 id).trans HS.out
      have h8 := (hf.block kb (Array.getElem?_eq_some_iff.1 hK5).1 id).trans hK5
      have s1 := cells_in h7 1
      have b0 := cells_in h8 0
      have b1 := cells_in h8 1
      have b2 := cells_in h8 2
      simp at s1 b0 b1 b2
      exact ⟨s1, b0, b1, b2⟩))
     have HE1 := Lib.hid (fun (W : World) (hf : Fr0 none' w W) => rat_any E (H.out.later hf) Hl.out (cap := cap) (by omega) x.key.source x.key.seq)
     have HE2 := Lib.hid (fun (W : World) (hf : Fr0 none' w W) => rat_any (l.take i) ((HLl.out.take i).later hf) (n := i) (by rw [List.length_take, Hk.out]; omega) (cap := lc) (by omega) x.key.source x.key.seq)
     clear hK5
     refine wp_region_held_drew (S := fun W' => Fr0 none' W5 W') (by kernel_rfl) ((Fr0.refl _ W5).drew) (fun hHeld => ?_)
     refine tkn (i := 0) (v := .pointer (some ⟨SB, 1, none⟩)) (fun W' hSW => ?_) ?_
     ·obtain ⟨s1, b0, b1, b2⟩ := HY.out W' hSW
      first | (go_simp; done) | exact rfl | (go_simp; rfl) | (go_simp; omega)
     try simp only [pUt, pUn, sEt, sEz, sEs]
     refine tkn (i := 1) (v := .slice a m cap) (fun W' hSW => ?_) ?_
     ·obtain ⟨s1, b0, b1, b2⟩ := HY.out W' hSW
      first | (go_simp; done) | exact rfl | (go_simp; rfl) | (go_simp; omega)
     try simp only [pUt, pUn, sEt, sEz, sEs]
     refine tkn (i := 2) (v := .pointer (some ⟨kb, 1, none⟩)) (fun W' hSW => ?_) ?_
     ·obtain ⟨s1, b0, b1, b2⟩ := HY.out W' hSW
      first | (go_simp; done) | exact rfl | (go_simp; rfl) | (go_simp; omega)
     try simp only [pUt, pUn, sEt, sEz, sEs]
     refine tkn (i := 3) (v := .int .i64 x.key.source) (fun W' hSW => ?_) ?_
     ·obtain ⟨s1, b0, b1, b2⟩ := HY.out W' hSW
      first | (go_simp; done) | exact rfl | (go_simp; rfl) | (go_simp; omega)
     try simp only [pUt, pUn, sEt, sEz, sEs]
     refine tkn (i := 4) (v := .pointer (some ⟨kb, 2, none⟩)) (fun W' hSW => ?_) ?_
     ·obtain ⟨s1, b0, b1, b2⟩ := HY.out W' hSW
      first | (go_simp; done) | exact rfl | (go_simp; rfl) | (go_simp; omega)
     try simp only [pUt, pUn, sEt, sEz, sEs]
     refine tkn (i := 5) (v := .int .i64 x.key.seq) (fun W' hSW => ?_) ?_
     ·obtain ⟨s1, b0, b1, b2⟩ := HY.out W' hSW
      first | (go_simp; done) | exact rfl | (go_simp; rfl) | (go_simp; omega)
     try simp only [pUt, pUn, sEt, sEz, sEs]
     refine take_call (i := 6) rfl (by kernel_rfl) (by kernel_rfl) (fun K hK => ?_)
     go_simp
     refine (HE1.out _ HF.out.drew).mono ?_
     rintro e w5 ⟨rfl, rfl⟩
     obtain ⟨i1, hi1⟩ : ∃ i1, atE (x.key.source, x.key.seq) E = i1 := ⟨_, rfl⟩
     rw [hi1]
     have Hi1 := Lib.hid (show atE x.name E = i1 from hi1)
     clear hi1
     go_wp2_with fail
     refine hK.out _ _ hHeld (fun hS => ?_)
     clear hK K hS
     try simp only [pUt, pUn, sEt, sEz, sEs]
     by_cases hi1 : 0 ≤ i1
     ·have d1 : decide (i1 ≥ 0) = true := decide_eq_true hi1
      have d2 : decide (0 ≤ i1) = true := decide_eq_true hi1
      refine tkn (i := 7) (v := .bool true) (fun W' hSW => ?_) ?_
      ·obtain ⟨s1, b0, b1, b2⟩ := HY.out W' hSW
       first | (go_simp; done) | exact rfl | (go_simp; rfl) | (go_simp; omega)
      try simp only [pUt, pUn, sEt, sEz, sEs]
      refine tkn (i := 8) (v := .bool true) (fun W' hSW => ?_) ?_
      ·obtain ⟨s1, b0, b1, b2⟩ := HY.out W' hSW
       first | (go_simp; done) | exact rfl | (go_simp; rfl) | (go_simp; omega)
      try simp only [pUt, pUn, sEt, sEz, sEs]
      refine take_off (i := 9) rfl (by kernel_rfl) (by kernel_rfl) (by kernel_rfl) (fun _ _ _ h => h) (by kernel_rfl) (by assumption) ?_
      try simp only [pUt, pUn, sEt, sEz, sEs]
      refine take_off (i := 10) rfl (by kernel_rfl) (by kernel_rfl) (by kernel_rfl) (fun _ _ _ h => h) (by kernel_rfl) (by assumption) ?_
      try simp only [pUt, pUn, sEt, sEz, sEs]
      refine take_off (i := 11) rfl (by kernel_rfl) (by kernel_rfl) (by kernel_rfl) (fun _ _ _ h => h) (by kernel_rfl) (by assumption) ?_
      try simp only [pUt, pUn, sEt, sEz, sEs]
      refine take_off (i := 12) rfl (by kernel_rfl) (by kernel_rfl) (by kernel_rfl) (fun _ _ _ h => h) (by kernel_rfl) (by assumption) ?_
      try simp only [pUt, pUn, sEt, sEz, sEs]
      refine take_off (i := 13) rfl (by kernel_rfl) (by kernel_rfl) (by kernel_rfl) (fun _ _ _ h => h) (by kernel_rfl) (by assumption) ?_
      try simp only [pUt, pUn, sEt, sEz, sEs]
      refine take_off (i := 14) rfl (by kernel_rfl) (by kernel_rfl) (by kernel_rfl) (fun _ _ _ h => h) (by kernel_rfl) (by assumption) ?_
      try simp only [pUt, pUn, sEt, sEz, sEs]
      refine take_off (i := 15) rfl (by kernel_rfl) (by kernel_rfl) (by kernel_rfl) (fun _ _ _ h => h) (by kernel_rfl) (by assumption) ?_
      try simp only [pUt, pUn, sEt, sEz, sEs]
      refine take_off (i := 16) rfl (by kernel_rfl) (by kernel_rfl) (by kernel_rfl) (fun _ _ _ h => h) (by kernel_rfl) (by assumption) ?_
      try simp only [pUt, pUn, sEt, sEz, sEs]
      refine take_off (i := 17) rfl (by kernel_rfl) (by kernel_rfl) (by kernel_rfl) (fun _ _ _ h => h) (by kernel_rfl) (by assumption) ?_
      try simp only [pUt, pUn, sEt, sEz, sEs]
      refine tkn (i := 18) (v := .bool true) (fun W' hSW => ?_) ?_
      ·obtain ⟨s1, b0, b1, b2⟩ := HY.out W' hSW
       first | (go_simp; done) | exact rfl | (go_simp; rfl) | (go_simp; omega)
      try simp only [pUt, pUn, sEt, sEz, sEs]
      refine wpAnyH_done (by kernel_rfl) ?_ _
      obtain ⟨w2, hw2⟩ : ∃ W, W5.drew = W := ⟨_, rfl⟩
      have hf : Fr0 none' W5 w2 := by rw [← hw2]; exact (Fr0.refl none' W5).drew
      rw [hw2]
      clear hw2 hHeld
      have HS := Lib.hid ((hf.block SB (Array.getElem?_eq_some_iff.1 HS.out).1 id).trans HS.out)
      have HZ := Lib.hid ((hf.block (SB + 1) (Array.getElem?_eq_some_iff.1 HZ.out).1 id).trans HZ.out)
      have HF := Lib.hid (HF.out.trans hf)
      clear hf
      obtain ⟨ea, eb⟩ := allV_dup (n := n) (E := E) HRa.out (by rw [Hk.out]; exact hlt) HP.out (show dupB E l i = true by rw [dup_at Hx.out]; simp [Hi1.out, hi1])
      have hv := HV.out
      have he := HE'.out
      rw [ea] at hv
      rw [eb] at he
      subst hv
      subst he
      clear ea eb
      have t0 := thaw_in HZ.out 0
      have t1 := thaw_in HZ.out 1
      have s0 := cells_in HS.out 0
      have s1 := cells_in HS.out 1
      have u0 := cells_in HZ.out 0
      have u1 := cells_in HZ.out 1
      simp at u0 u1 s0 s1
      go_wp2_with fail
      obtain ⟨W6, hW6⟩ : ∃ W, ((w2).setCell ⟨SB + 1, 0, none⟩ (.int .i64 n)).setCell ⟨SB + 1, 1, none⟩ (.slice a m cap) = W := ⟨_, rfl⟩
      have hg : SB + 1 < w.heap.size → none' (SB + 1) := fun e => by have := HSB.out; omega
      have f6 : Fr0 none' w W6 := by rw [← hW6]; exact (HF.out.setCell hg _).setCell hg _
      have hb6 : W6.heap[SB + 1]? = some (.cells #[.int .i64 n, .slice a m cap] 135 (0, 0)) := by rw [← hW6]; exact heap_set_cell (heap_set_cell HZ.out _) _
      have f7 : Fr0 (fun k => k = SB + 1) (w2) W6 := by rw [← hW6]; exact ((Fr0.refl (fun k => k = SB + 1) (w2)).setCell (fun _ => rfl) _).setCell (fun _ => rfl) _
      rw [hW6]
      clear hW6 t0 t1 u0 u1
      have r0 := cells_in hb6 0
      have r1 := cells_in hb6 1
      simp at r0 r1
      refine bodyPost_ret (v := .tuple #[.agg #[.int .i64 n, .slice a m cap], .int .i64 i, .int .i64 101]) (by simp [results, Try.results77, go_sem, r0, r1]) rfl ⟨_, by first | rfl | rw [rfl], ?_, f6⟩
      exact hsame.out _ f6
     ·have d1 : decide (i1 ≥ 0) = false := decide_eq_false hi1
      have d2 : decide (0 ≤ i1) = false := decide_eq_false hi1
      refine tkn (i := 7) (v := .bool false) (fun W' hSW => ?_) ?_
      ·obtain ⟨s1, b0, b1, b2⟩ := HY.out W' hSW
       first | (go_simp; done) | exact rfl | (go_simp; rfl) | (go_simp; omega)
      try simp only [pUt, pUn, sEt, sEz, sEs]
      refine tkn (i := 8) (v := .bool false) (fun W' hSW => ?_) ?_
      ·obtain ⟨s1, b0, b1, b2⟩ := HY.out W' hSW
       first | (go_simp; done) | exact rfl | (go_simp; rfl) | (go_simp; omega)
      try simp only [pUt, pUn, sEt, sEz, sEs]
      refine tkn (i := 9) (v := .slice (some ⟨g2, o, none⟩) k lc) (fun W' hSW => ?_) ?_
      ·obtain ⟨s1, b0, b1, b2⟩ := HY.out W' hSW
       first | (go_simp; done) | exact rfl | (go_simp; rfl) | (go_simp; omega)
      try simp only [pUt, pUn, sEt, sEz, sEs]
      refine tkn (i := 10) (v := .int .i64 i) (fun W' hSW => ?_) ?_
      ·obtain ⟨s1, b0, b1, b2⟩ := HY.out W' hSW
       first | (go_simp; done) | exact rfl | (go_simp; rfl) | (go_simp; omega)
      try simp only [pUt, pUn, sEt, sEz, sEs]
      refine tkn (i := 11) (v := .slice (some ⟨g2, o, none⟩) i lc) (fun W' hSW => ?_) ?_
      ·obtain ⟨s1, b0, b1, b2⟩ := HY.out W' hSW
       first | (go_simp; done) | exact rfl | (go_simp; rfl) | (go_simp; omega)
      try simp only [pUt, pUn, sEt, sEz, sEs]
      refine tkn (i := 12) (v := .pointer (some ⟨kb, 1, none⟩)) (fun W' hSW => ?_) ?_
      ·obtain ⟨s1, b0, b1, b2⟩ := HY.out W' hSW
       first | (go_simp; done) | exact rfl | (go_simp; rfl) | (go_simp; omega)
      try simp only [pUt, pUn, sEt, sEz, sEs]
      refine tkn (i := 13) (v := .int .i64 x.key.source) (fun W' hSW => ?_) ?_
      ·obtain ⟨s1, b0, b1, b2⟩ := HY.out W' hSW
       first | (go_simp; done) | exact rfl | (go_simp; rfl) | (go_simp; omega)
      try simp only [pUt, pUn, sEt, sEz, sEs]
      refine tkn (i := 14) (v := .pointer (some ⟨kb, 2, none⟩)) (fun W' hSW => ?_) ?_
      ·obtain ⟨s1, b0, b1, b2⟩ := HY.out W' hSW
       first | (go_simp; done) | exact rfl | (go_simp; rfl) | (go_simp; omega)
      try simp only [pUt, pUn, sEt, sEz, sEs]
      refine tkn (i := 15) (v := .int .i64 x.key.seq) (fun W' hSW => ?_) ?_
      ·obtain ⟨s1, b0, b1, b2⟩ := HY.out W' hSW
       first | (go_simp; done) | exact rfl | (go_simp; rfl) | (go_simp; omega)
      try simp only [pUt, pUn, sEt, sEz, sEs]
      refine take_call (i := 16) rfl (by kernel_rfl) (by kernel_rfl) (fun K hK => ?_)
      go_simp
      refine (HE2.out _ HF.out.drew).mono ?_
      rintro e w5 ⟨rfl, rfl⟩
      obtain ⟨i2, hi2⟩ : ∃ i2, atE (x.key.source, x.key.seq) (l.take i) = i2 := ⟨_, rfl⟩
      rw [hi2]
      have Hi2 := Lib.hid (show atE x.name (l.take i) = i2 from hi2)
      clear hi2
      go_wp2_with fail
      refine hK.out _ _ hHeld (fun hS => ?_)
      clear hK K hS
      try simp only [pUt, pUn, sEt, sEz, sEs]
      by_cases hi2 : 0 ≤ i2
      ·have d3 : decide (i2 ≥ 0) = true := decide_eq_true hi2
       have d4 : decide (0 ≤ i2) = true := decide_eq_true hi2
       refine tkn (i := 17) (v := .bool true) (fun W' hSW => ?_) ?_
       ·obtain ⟨s1, b0, b1, b2⟩ := HY.out W' hSW
        first | (go_simp; done) | exact rfl | (go_simp; rfl) | (go_simp; omega)
       try simp only [pUt, pUn, sEt, sEz, sEs]
       refine tkn (i := 18) (v := .bool true) (fun W' hSW => ?_) ?_
       ·obtain ⟨s1, b0, b1, b2⟩ := HY.out W' hSW
        first | (go_simp; done) | exact rfl | (go_simp; rfl) | (go_simp; omega)
       try simp only [pUt, pUn, sEt, sEz, sEs]
       refine wpAnyH_done (by kernel_rfl) ?_ _
       clear d1 d2 d3 d4
       obtain ⟨w2, hw2⟩ : ∃ W, W5.drew = W := ⟨_, rfl⟩
       have hf : Fr0 none' W5 w2 := by rw [← hw2]; exact (Fr0.refl none' W5).drew
       rw [hw2]
       clear hw2 hHeld
       have HS := Lib.hid ((hf.block SB (Array.getElem?_eq_some_iff.1 HS.out).1 id).trans HS.out)
       have HZ := Lib.hid ((hf.block (SB + 1) (Array.getElem?_eq_some_iff.1 HZ.out).1 id).trans HZ.out)
       have HF := Lib.hid (HF.out.trans hf)
       clear hf
       obtain ⟨ea, eb⟩ := allV_dup (n := n) (E := E) HRa.out (by rw [Hk.out]; exact hlt) HP.out (show dupB E l i = true by rw [dup_at Hx.out]; simp [Hi2.out, hi2])
       have hv := HV.out
       have he := HE'.out
       rw [ea] at hv
       rw [eb] at he
       subst hv
       subst he
       clear ea eb
       have t0 := thaw_in HZ.out 0
       have t1 := thaw_in HZ.out 1
       have s0 := cells_in HS.out 0
       have s1 := cells_in HS.out 1
       have u0 := cells_in HZ.out 0
       have u1 := cells_in HZ.out 1
       simp at u0 u1 s0 s1
       go_wp2_with fail
       obtain ⟨W6, hW6⟩ : ∃ W, ((w2).setCell ⟨SB + 1, 0, none⟩ (.int .i64 n)).setCell ⟨SB + 1, 1, none⟩ (.slice a m cap) = W := ⟨_, rfl⟩
       have hg : SB + 1 < w.heap.size → none' (SB + 1) := fun e => by have := HSB.out; omega
       have f6 : Fr0 none' w W6 := by rw [← hW6]; exact (HF.out.setCell hg _).setCell hg _
       have hb6 : W6.heap[SB + 1]? = some (.cells #[.int .i64 n, .slice a m cap] 135 (0, 0)) := by rw [← hW6]; exact heap_set_cell (heap_set_cell HZ.out _) _
       have f7 : Fr0 (fun k => k = SB + 1) (w2) W6 := by rw [← hW6]; exact ((Fr0.refl (fun k => k = SB + 1) (w2)).setCell (fun _ => rfl) _).setCell (fun _ => rfl) _
       rw [hW6]
       clear hW6 t0 t1 u0 u1
       have r0 := cells_in hb6 0
       have r1 := cells_in hb6 1
       simp at r0 r1
       refine bodyPost_ret (v := .tuple #[.agg #[.int .i64 n, .slice a m cap], .int .i64 i, .int .i64 101]) (by simp [results, Try.results77, go_sem, r0, r1]) rfl ⟨_, by first | rfl | rw [rfl], ?_, f6⟩
       exact hsame.out _ f6
      ·have d3 : decide (i2 ≥ 0) = false := decide_eq_false hi2
       have d4 : decide (0 ≤ i2) = false := decide_eq_false hi2
       refine tkn (i := 17) (v := .bool false) (fun W' hSW => ?_) ?_
       ·obtain ⟨s1, b0, b1, b2⟩ := HY.out W' hSW
        first | (go_simp; done) | exact rfl | (go_simp; rfl) | (go_simp; omega)
       try simp only [pUt, pUn, sEt, sEz, sEs]
       refine tkn (i := 18) (v := .bool false) (fun W' hSW => ?_) ?_
       ·obtain ⟨s1, b0, b1, b2⟩ := HY.out W' hSW
        first | (go_simp; done) | exact rfl | (go_simp; rfl) | (go_simp; omega)
       try simp only [pUt, pUn, sEt, sEz, sEs]
       refine wpAnyH_done (by kernel_rfl) ?_ _
       clear d1 d2 d3 d4
       obtain ⟨w2, hw2⟩ : ∃ W, W5.drew = W := ⟨_, rfl⟩
       have hf : Fr0 none' W5 w2 := by rw [← hw2]; exact (Fr0.refl none' W5).drew
       rw [hw2]
       clear hw2 hHeld
       have HS := Lib.hid ((hf.block SB (Array.getElem?_eq_some_iff.1 HS.out).1 id).trans HS.out)
       have HZ := Lib.hid ((hf.block (SB + 1) (Array.getElem?_eq_some_iff.1 HZ.out).1 id).trans HZ.out)
       have HF := Lib.hid (HF.out.trans hf)
       clear hf
       have HP1 := Lib.hid (show ∀ t, t < i + 1 → dupB E l t = false from fun t ht => by
        rcases Nat.lt_or_ge t i with h | h
        ·exact HP.out t h
        ·have : t = i := by omega
         subst this
         rw [dup_at Hx.out, Hi1.out, Hi2.out, decide_eq_false (by omega), decide_eq_false (by omega)]
         rfl)
       clear hi1 hi2
       go_wp2_with fail
       go_roundw
       case rel => exact ⟨i + 1, by omega, by go_num, HP1, HS, HZ, HF⟩
       case measure => simp [Go.RowKit.intOf]; omega
    ·have hdd : ∀ t, t < l.length → dupB E l t = false := fun t ht => HP.out t (by rw [Hk.out] at ht; omega)
     have HD := Lib.hid hdd
     have hlm := Hl.out
     have hlk := Hk.out
     have wsum : IntKind.i64.wrap ((m : Int) + (k : Int)) = ((m + k : Nat) : Int) := by rw [IntWalk.i64_in _ (by omega)]; omega
     by_cases hfull : n < m + k
     ·have d1 : decide (((m + k : Nat) : Int) > (n : Int)) = true := decide_eq_true (by omega)
      have d2 : decide ((n : Int) < ((m + k : Nat) : Int)) = true := decide_eq_true (by omega)
      have d3 : decide (n < m + k) = true := decide_eq_true hfull
      obtain ⟨ea, eb⟩ := allV_full (n := n) (E := E) (l := l) HRa.out HD.out (by omega)
      have hv := HV.out
      have he := HE'.out
      rw [ea] at hv
      rw [eb] at he
      subst hv
      subst he
      clear ea eb hdd hlm hlk
      have t0 := thaw_in HZ.out 0
      have t1 := thaw_in HZ.out 1
      have s0 := cells_in HS.out 0
      have s1 := cells_in HS.out 1
      have u0 := cells_in HZ.out 0
      have u1 := cells_in HZ.out 1
      simp at u0 u1 s0 s1
      go_wp2_with fail
      clear s0 s1 d1 d2 d3 wsum hfull
      obtain ⟨W6, hW6⟩ : ∃ W, ((wr).setCell ⟨SB + 1, 0, none⟩ (.int .i64 n)).setCell ⟨SB + 1, 1, none⟩ (.slice a m cap) = W := ⟨_, rfl⟩
      have hg : SB + 1 < w.heap.size → none' (SB + 1) := fun e => by have := HSB.out; omega
      have f6 : Fr0 none' w W6 := by rw [← hW6]; exact (HF.out.setCell hg _).setCell hg _
      have hb6 : W6.heap[SB + 1]? = some (.cells #[.int .i64 n, .slice a m cap] 135 (0, 0)) := by rw [← hW6]; exact heap_set_cell (heap_set_cell HZ.out _) _
      have f7 : Fr0 (fun k => k = SB + 1) (wr) W6 := by rw [← hW6]; exact ((Fr0.refl (fun k => k = SB + 1) (wr)).setCell (fun _ => rfl) _).setCell (fun _ => rfl) _
      rw [hW6]
      clear hW6 t0 t1 u0 u1
      have r0 := cells_in hb6 0
      have r1 := cells_in hb6 1
      simp at r0 r1
      refine bodyPost_ret (v := .tuple #[.agg #[.int .i64 n, .slice a m cap], .int .i64 (-1), .int .i64 4]) (by simp [results, Try.results77, go_sem, r0, r1]) rfl ⟨_, by first | rfl | rw [rfl], ?_, f6⟩
      exact hsame.out _ f6
     ·have d1 : decide (((m + k : Nat) : Int) > (n : Int)) = false := decide_eq_false (by omega)
      have d2 : decide ((n : Int) < ((m + k : Nat) : Int)) = false := decide_eq_false (by omega)
      have d3 : decide (n < m + k) = false := decide_eq_false hfull
      obtain ⟨ea, eb⟩ := allV_ok (n := n) (E := E) (l := l) HRa.out HD.out (by omega)
      have hv := HV.out
      have he := HE'.out
      rw [ea] at hv
      rw [eb] at he
      subst hv
      subst he
      have HO := Lib.hid (dup_once HOe.out HD.out)
      have hmk : m + k ≤ n := by omega
      have Hmk := Lib.hid hmk
      clear ea eb hdd hlm hlk hmk
      have t0 := thaw_in HZ.out 0
      have t1 := thaw_in HZ.out 1
      have s0 := cells_in HS.out 0
      have s1 := cells_in HS.out 1
      have u0 := cells_in HZ.out 0
      have u1 := cells_in HZ.out 1
      simp at u0 u1 s0 s1
      go_wp2_with fail
      clear s0 s1 u0 u1 t0 t1 d1 d2 d3 wsum hfull
      go_loopw [10] (fun v10 wr => ∃ j : Nat, j ≤ k ∧ v10 = .int .i64 j ∧ Hid (∃ a' cap', wr.heap[SB]? = some (.cells #[.int .i64 n, .slice a' (putsE (l.take j) E).length cap'] 135 (0, 0)) ∧ RAt wr a (SB + 2) n (putsE (l.take j) E) (.agg #[.int .i64 n, .slice a' (putsE (l.take j) E).length cap'])) ∧ Hid (wr.heap[SB + 1]? = some (.cells #[.int .i64 0, .slice none 0 0] 135 (0, 0))) ∧ Hid (Fr0 none' w wr)) (fun v10 _ => k - (Go.RowKit.intOf v10).toNat)
      case atStart => exact ⟨0, Nat.zero_le _, rfl, ⟨a, cap, by rw [List.take_zero, show putsE [] E = E from rfl, Hl.out]; exact HS.out, by rw [List.take_zero, show putsE [] E = E from rfl, Hl.out]; exact hsame2.out _ HF.out⟩, HZ, HF⟩
      case round =>
       clear hlt hi HP
       obtain ⟨j, hj, rfl, HA, HZ, HF⟩ := hrel
       obtain ⟨a', cap', hS, hA⟩ := HA.out
       obtain ⟨b', cb', hv, hcb, hAE, hAB⟩ := hA
       injection hv with hv
       simp at hv
       obtain ⟨rfl, rfl⟩ := hv
       have hjl : (putsE (l.take j) E).length = m + j := by rw [putsE_length, List.length_take, Hl.out, Hk.out]; omega
       rw [hjl] at hS hcb
       have HS := Lib.hid hS
       have HAE := Lib.hid hAE
       have HAB := Lib.hid hAB
       have Hjl := Lib.hid hjl
       have hmk := Hmk.out
       by_cases hlt : j < k
       ·obtain ⟨x, hx⟩ : ∃ x, l[j]? = some x := ⟨_, List.getElem?_eq_getElem (by rw [Hk.out]; exact hlt)⟩
        obtain ⟨g2, o, rfl, hxc⟩ := HLl.out j x hx
        have HX := Lib.hid (hxc.later HF.out)
        have HXx := Lib.hid (fun (W' : World) (hf : Fr0 (fun k => k = SB) wr W') => HX.out.fr0 hf (fun e => by
         have h7 := World.block_lt_of_cell? _ _ hxc.1
         simp only at h7
         have := HSB.out
         omega))
        have k1 : (0 : Int) ≤ (j : Int) := by omega
        have k2 : (j : Int) < (k : Int) := by omega
        have HPt := Lib.hid (fun (W : World) (hf : Fr0 none' wr W) => rPut_any (n := n) (putsE (l.take j) E) (HAE.out.later hf) Hjl.out (by omega) hcb (by omega) hn' x)
        obtain ⟨e1, e2⟩ := puts_step (n := n) HO.out HRa.out hx (by rw [Hl.out, Hk.out]; exact hmk)
        rw [e1, e2] at HPt
        unfold evV at HPt
        clear hx hxc hS hAE hAB hjl e1 e2
        go_wp2_with fail
        have s0 := cells_in HS.out 0
        have s1 := cells_in HS.out 1
        simp at s0 s1
        refine wp_region_held_drew (S := fun W' => Fr0 (fun k => k = SB) wr W') (by kernel_rfl) ((Fr0.refl _ wr).drew) (fun hHeld => ?_)
        refine tkn (i := 1) (v := .slice (some ⟨g2, o, none⟩) k lc) (fun W' hSW => ?_) ?_
        ·obtain ⟨b0, b1, b2, b3, b4⟩ := HXx.out W' hSW
         first | (go_simp; done) | exact rfl | (go_simp; rfl) | (go_simp; omega)
        try simp only [pUt, pUn, sEt, sEz, sEs]
        refine tkn (i := 2) (v := .int .i64 j) (fun W' hSW => ?_) ?_
        ·obtain ⟨b0, b1, b2, b3, b4⟩ := HXx.out W' hSW
         first | (go_simp; done) | exact rfl | (go_simp; rfl) | (go_simp; omega)
        try simp only [pUt, pUn, sEt, sEz, sEs]
        refine tkn (i := 3) (v := .pointer (some ⟨g2, o + j * 5, none⟩)) (fun W' hSW => ?_) ?_
        ·obtain ⟨b0, b1, b2, b3, b4⟩ := HXx.out W' hSW
         first | (go_simp; done) | exact rfl | (go_simp; rfl) | (go_simp; omega)
        try simp only [pUt, pUn, sEt, sEz, sEs]
        refine tkn (i := 4) (v := .agg #[.int .i64 x.key.time, .int .i64 x.key.source, .int .i64 x.key.seq, .int .i64 x.to, .int .i64 x.value]) (fun W' hSW => ?_) ?_
        ·obtain ⟨b0, b1, b2, b3, b4⟩ := HXx.out W' hSW
         first | (go_simp; done) | exact rfl | (go_simp; rfl) | (go_simp; omega)
        try simp only [pUt, pUn, sEt, sEz, sEs]
        refine take_call (i := 0) rfl (by kernel_rfl) (by kernel_rfl) (fun K hK => ?_)
        go_simp
        refine hK.out _ _ hHeld (fun hS => ?_)
        clear hK K hS s0 s1
        try simp only [pUt, pUn, sEt, sEz, sEs]
        refine take_call (i := 5) rfl (by kernel_rfl) (by kernel_rfl) (fun K hK => ?_)
        go_simp
        refine (HPt.out _ ((Fr0.refl none' wr).drew)).mono ?_
        rintro e w5 ⟨v, rfl, hA5, hf⟩
        obtain ⟨b5, cb5, rfl, hcb5, hAE5, hAB5⟩ := hA5
        have hf5 : Fr0 none' wr w5 := ((Fr0.refl none' wr).drew).trans hf
        have HA5 := Lib.hid (show RAt w5 a (SB + 2) n (putsE (l.take (j + 1)) E) (.agg #[.int .i64 n, .slice b5 (putsE (l.take (j + 1)) E).length cb5]) from RAt.base (w1 := wr) ⟨b5, cb5, rfl, hcb5, hAE5, hAB5⟩ HAB.out (by have := (Array.getElem?_eq_some_iff.1 HZ.out).1; have h9 : wr.drew.heap.size = wr.heap.size := rfl; omega) hf5.size)
        clear hcb5 hAE5 hAB5 hf HPt
        go_wp2_with fail
        refine hK.out _ _ (hf5.mono (fun _ _ h => h.elim)) (fun hS => ?_)
        clear hK K hHeld
        try simp only [pUt, pUn, sEt, sEz, sEs]
        obtain ⟨n5, hn5⟩ : ∃ n5, (putsE (l.take (j + 1)) E).length = n5 := ⟨_, rfl⟩
        rw [hn5] at HA5 ⊢
        have Hn5 := Lib.hid hn5
        clear hn5
        refine tkn (i := 6) (v := .tuple #[.agg #[.int .i64 n, .slice b5 n5 cb5], .int .i64 0]) (fun W' hSW => ?_) ?_
        ·obtain ⟨b0, b1, b2, b3, b4⟩ := HXx.out W' hSW
         first | (go_simp; done) | exact rfl | (go_simp; rfl) | (go_simp; omega)
        try simp only [pUt, pUn, sEt, sEz, sEs]
        refine tkn (i := 7) (v := .agg #[.int .i64 n, .slice b5 n5 cb5]) (fun W' hSW => ?_) ?_
        ·obtain ⟨b0, b1, b2, b3, b4⟩ := HXx.out W' hSW
         first | (go_simp; done) | exact rfl | (go_simp; rfl) | (go_simp; omega)
        try simp only [pUt, pUn, sEt, sEz, sEs]
        refine tkn (i := 8) (v := .int .i64 0) (fun W' hSW => ?_) ?_
        ·obtain ⟨b0, b1, b2, b3, b4⟩ := HXx.out W' hSW
         first | (go_simp; done) | exact rfl | (go_simp; rfl) | (go_simp; omega)
        try simp only [pUt, pUn, sEt, sEz, sEs]
        have HS5 := Lib.hid ((hf5.block SB (Array.getElem?_eq_some_iff.1 HS.out).1 id).trans HS.out)
        have HZ5 := Lib.hid ((hf5.block (SB + 1) (Array.getElem?_eq_some_iff.1 HZ.out).1 id).trans HZ.out)
        have HF5 := Lib.hid (HF.out.trans hf5)
        have t0 := thaw_in HS5.out 0
        have t1 := thaw_in HS5.out 1
        have u0 := cells_in HS5.out 0
        have u1 := cells_in HS5.out 1
        simp at u0 u1
        refine take_call (i := 9) rfl (by kernel_rfl) (by kernel_rfl) (fun K hK => ?_)
        go_simp
        obtain ⟨W6, hW6⟩ : ∃ W, (w5.setCell ⟨SB, 0, none⟩ (.int .i64 n)).setCell ⟨SB, 1, none⟩ (.slice b5 n5 cb5) = W := ⟨_, rfl⟩
        have f56 : Fr0 (fun k => k = SB) w5 W6 := by rw [← hW6]; exact ((Fr0.refl (fun k => k = SB) w5).setCell (fun _ => rfl) _).setCell (fun _ => rfl) _
        have hb6 : W6.heap[SB]? = some (.cells #[.int .i64 n, .slice b5 n5 cb5] 135 (0, 0)) := by rw [← hW6]; exact heap_set_cell (heap_set_cell HS5.out _) _
        rw [hW6]
        refine hK.out _ _ ((hf5.mono (fun _ _ h => h.elim)).trans f56) (fun hS => ?_)
        clear hK K hW6 t0 t1 u0 u1 hS
        try simp only [pUt, pUn, sEt, sEz, sEs]
        refine wpAnyH_done (by kernel_rfl) ?_ _
        have HZ6 := Lib.hid ((f56.block (SB + 1) (Array.getElem?_eq_some_iff.1 HZ5.out).1 (fun e => by omega)).trans HZ5.out)
        have HF6 := Lib.hid (HF5.out.trans' f56 (fun i hi e => by have := HSB.out; omega))
        have HB6 := Lib.hid hb6
        have HA6 := Lib.hid (show RAt W6 a (SB + 2) n (putsE (l.take (j + 1)) E) (.agg #[.int .i64 n, .slice b5 n5 cb5]) from by
         obtain ⟨b7, c7, h1, h2, h3, h4⟩ := HA5.out
         refine ⟨b7, c7, h1, h2, h3.fr0 f56 (fun g o s e he => ?_), fun g o s e => (h4 g o s e).imp id (fun h => ⟨h.1, Nat.lt_of_lt_of_le h.2 f56.size⟩)⟩
         rcases h4 g o s e with ⟨o', s', e'⟩ | h5
         ·have := Hal.out g o' s' e'
          have := HSB.out
          omega
         ·omega)
        clear hb6 f56 hf5
        go_wp2_with fail
        go_roundw
        case rel => exact ⟨j + 1, by omega, by go_num, ⟨b5, cb5, by rw [Hn5.out]; exact HB6.out, by rw [Hn5.out]; exact HA6.out⟩, HZ6, HF6⟩
        case measure => simp [Go.RowKit.intOf]; omega
       ·have hjk : l.take j = l := List.take_of_length_le (by rw [Hk.out]; omega)
        have hAE := HAE.out
        rw [hjk] at hAE
        have hjl := Hjl.out
        rw [hjk] at hjl
        have HAF := Lib.hid hAE
        have Hjf := Lib.hid hjl
        have hcb2 : m + j ≤ cap' := hcb
        clear hjk hAE hjl hmk
        have t0 := thaw_in HZ.out 0
        have t1 := thaw_in HZ.out 1
        have s0 := cells_in HS.out 0
        have s1 := cells_in HS.out 1
        have u0 := cells_in HZ.out 0
        have u1 := cells_in HZ.out 1
        simp at u0 u1 s0 s1
        go_wp2_with fail
        clear s0 s1
        obtain ⟨W6, hW6⟩ : ∃ W, ((wr).setCell ⟨SB + 1, 0, none⟩ (.int .i64 n)).setCell ⟨SB + 1, 1, none⟩ (.slice a' (m + j) cap') = W := ⟨_, rfl⟩
        have hg : SB + 1 < w.heap.size → none' (SB + 1) := fun e => by have := HSB.out; omega
        have f6 : Fr0 none' w W6 := by rw [← hW6]; exact (HF.out.setCell hg _).setCell hg _
        have hb6 : W6.heap[SB + 1]? = some (.cells #[.int .i64 n, .slice a' (m + j) cap'] 135 (0, 0)) := by rw [← hW6]; exact heap_set_cell (heap_set_cell HZ.out _) _
        have f7 : Fr0 (fun k => k = SB + 1) (wr) W6 := by rw [← hW6]; exact ((Fr0.refl (fun k => k = SB + 1) (wr)).setCell (fun _ => rfl) _).setCell (fun _ => rfl) _
        rw [hW6]
        clear hW6 t0 t1 u0 u1
        have r0 := cells_in hb6 0
        have r1 := cells_in hb6 1
        simp at r0 r1
        refine bodyPost_ret (v := .tuple #[.agg #[.int .i64 n, .slice a' (m + j) cap'], .int .i64 (-1), .int .i64 0]) (by simp [results, Try.results77, go_sem, r0, r1]) rfl ⟨_, by first | rfl | rw [rfl], ?_, f6⟩
        refine ⟨a', cap', by rw [Hjf.out], by rw [Hjf.out]; exact hcb2, HAF.out.fr0 f7 (fun g o s e he => ?_), fun g o s e => (HAB.out g o s e).imp id (fun h => ⟨by have := HSB.out; omega, Nat.lt_of_lt_of_le h.2 f7.size⟩)⟩
        rcases HAB.out g o s e with ⟨o', s', e'⟩ | h5
        ·have := Hal.out g o' s' e'
         have := HSB.out
         omega
        ·omega
end Go.Proofs.Ytmbjfmlicffclaa
