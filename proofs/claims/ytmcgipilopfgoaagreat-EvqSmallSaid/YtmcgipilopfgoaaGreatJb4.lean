/-
  The queue of events: what each function of the package does, and what the laws make of it.
-/
import Derived.Test.YtmcgipilopfgoaaGreatJb3
import Derived.Test.YtmcgipilopfgoaaGreatJb2
import Derived.Test.YtmcgipilopfgoaaGreatShelf
import Derived.Lib.OwnBridge
set_option linter.unusedSimpArgs false
set_option linter.unusedVariables false

/-
  EvqTells: acts: taking one event, cancelling one.
-/
namespace Go.Proofs.YtmcgipilopfgoaaGreat
open Go Go.RowKit Go.ChangeMaps
attribute [local go_sem ↓] Go.wp_at_zero Go.wp_at_succ
attribute [local go_sem] Oper.semAt_some wide_fn wide_depth wide_fnR wide_depthR
attribute [local go_sem high] run_eql_ev run_neq_ev

set_option maxRecDepth 100000 in
set_option maxHeartbeats 4000000 in
theorem do_3 {w : World} {qb n T m rc lk lc : Nat} {E : List Ev} {ft : Nat → Prop} {ra la : Option Addr} {kd t : Int} {x : Ev} (h : QIs w qb n T E ft) (hT : T ≤ 1000000) (hr : RsK w n E ra rc ft) (hm : E.length = m) (hkd : 0 ≤ kd ∧ kd < 256)
  (hk : kd % 10 = 3) :
  Calls Tryz.prog 20 #[.pointer (some ⟨qb, 0, none⟩), .agg #[.int .i64 n, .slice ra m rc], actV kd x la lk lc t] w (DoPost n T w ft ra) := by
 have H := Lib.hid h
 have HR := Lib.hid hr
 have Hm := Lib.hid hm
 have hle := h.le
 have hmrc : m ≤ rc := by have := hr.2.1; rw [hm] at this; exact this
 have hm256 : m ≤ 256 := by omega
 unfold actV
 clear h hr hle hm
 go_enter Tryz.func20, Tryz.ntmps20
 go_wp2_with fail
 have hkt : kd.tmod 10 = 3 := by rw [Int.tmod_eq_emod_of_nonneg hkd.1]; exact hk
 clear hk
 obtain ⟨SB, hSB⟩ : ∃ B, w.heap.size = B := ⟨_, rfl⟩
 obtain ⟨W1, hW1⟩ : ∃ W, w.alloc (.cells #[.int .i64 n, .slice ra m rc] 50) = W := ⟨_, rfl⟩
 have hs1 : W1.heap[SB]? = some (.cells #[.int .i64 n, .slice ra m rc] 50 (0, 0)) := by rw [← hW1, ← hSB]; exact World.alloc_heap_new w _
 have f1 : Fr0 none' w W1 := by rw [← hW1]; exact (Fr0.refl _ _).alloc _
 have z1 : W1.heap.size = SB + 1 := by rw [← hW1, World.size_alloc, hSB]
 rw [hW1]
 try rw [hSB]
 obtain ⟨W2, hW2⟩ : ∃ W, W1.alloc (.cells #[.int .u8 kd, .int .i64 x.key.time, .int .i64 x.key.source, .int .i64 x.key.seq, .int .i64 x.to, .int .i64 x.value, .slice la lk lc, .int .i64 t] 32) = W := ⟨_, rfl⟩
 have f2 : Fr0 none' W1 W2 := by rw [← hW2]; exact (Fr0.refl _ _).alloc _
 have hx2 : W2.heap[SB + 1]? = some (.cells #[.int .u8 kd, .int .i64 x.key.time, .int .i64 x.key.source, .int .i64 x.key.seq, .int .i64 x.to, .int .i64 x.value, .slice la lk lc, .int .i64 t] 32 (0, 0)) := by rw [← hW2, ← z1]; exact World.alloc_heap_new W1 _
 have z2 : W2.heap.size = SB + 1 + 1 := by rw [← hW2, World.size_alloc, z1]
 rw [hW2]
 obtain ⟨W3, hW3⟩ : ∃ W, W2.alloc (.cells #[.int .i64 0, .slice none 0 0] 50) = W := ⟨_, rfl⟩
 have f3 : Fr0 none' W2 W3 := by rw [← hW3]; exact (Fr0.refl _ _).alloc _
 have HRB := Lib.hid (show W3.heap[SB + 1 + 1]? = some (.cells #[.int .i64 0, .slice none 0 0] 50 (0, 0)) by rw [← hW3, ← z2]; exact World.alloc_heap_new W2 _)
 have HA := Lib.hid ((f3.block (SB + 1) (Array.getElem?_eq_some_iff.1 hx2).1 id).trans hx2)
 have HS := Lib.hid (((f2.trans f3).block SB (Array.getElem?_eq_some_iff.1 hs1).1 id).trans hs1)
 have HF := Lib.hid ((f1.trans f2).trans f3)
 have HSB := Lib.hid hSB
 have z3 : W3.heap.size = SB + 1 + 1 + 1 := by rw [← hW3, World.size_alloc, z2]
 have Hz3 := Lib.hid z3
 rw [hW3]
 clear hW1 hSB hs1 f1 hW2 f2 f3 hW3 z1 z2 hx2 z3
 have HZ := Lib.hid (fun (W' : World) (hf : Fr0 none' W3 W') => (show W'.cell? ⟨SB + 1, 0, none⟩ = some (.int .u8 kd) ∧ W'.cell? ⟨SB + 1, 1, none⟩ = some (.int .i64 x.key.time) ∧ W'.cell? ⟨SB + 1, 2, none⟩ = some (.int .i64 x.key.source) ∧ W'.cell? ⟨SB + 1, 3, none⟩ = some (.int .i64 x.key.seq) ∧ W'.cell? ⟨SB + 1, 4, none⟩ = some (.int .i64 x.to) ∧ W'.cell? ⟨SB + 1, 5, none⟩ = some (.int .i64 x.value) ∧ W'.cell? ⟨SB + 1, 6, none⟩ = some (.slice la lk lc) ∧ W'.cell? ⟨SB + 1, 7, none⟩ = some (.int .i64 t) from by
  have h1 := (hf.block (SB + 1) (Array.getElem?_eq_some_iff.1 HA.out).1 id).trans HA.out
  refine ⟨?_, ?_, ?_, ?_, ?_, ?_, ?_, ?_⟩ <;> (rw [cells_in h1]; rfl)))
 refine wp_region_held_drew (S := fun W' => Fr0 none' W3 W') (by kernel_rfl) ((Fr0.refl _ W3).drew) (fun hHeld => ?_)
 refine tkn (i := 0) (v := .pointer (some ⟨SB + 1, 0, none⟩)) (fun W' hSW => ?_) ?_
 ·obtain ⟨a0, a1, a2, a3, a4, a5, a6, a7⟩ := HZ.out W' hSW
  first | (go_simp; done) | exact rfl | (go_simp; rfl) | (go_simp; omega)
 try simp only [pUt, pUn, sEt, sEz, sEs]
 refine tkn (i := 1) (v := .int .u8 kd) (fun W' hSW => ?_) ?_
 ·obtain ⟨a0, a1, a2, a3, a4, a5, a6, a7⟩ := HZ.out W' hSW
  first | (go_simp; done) | exact rfl | (go_simp; rfl) | (go_simp; omega)
 try simp only [pUt, pUn, sEt, sEz, sEs]
 refine tkn (i := 2) (v := .int .u8 3) (fun W' hSW => ?_) ?_
 ·obtain ⟨a0, a1, a2, a3, a4, a5, a6, a7⟩ := HZ.out W' hSW
  first | (go_simp; done) | exact rfl | (go_simp; rfl) | (go_simp; omega)
 try simp only [pUt, pUn, sEt, sEz, sEs]
 refine tkn (i := 3) (v := .pointer (some ⟨SB + 1, 1, none⟩)) (fun W' hSW => ?_) ?_
 ·obtain ⟨a0, a1, a2, a3, a4, a5, a6, a7⟩ := HZ.out W' hSW
  first | (go_simp; done) | exact rfl | (go_simp; rfl) | (go_simp; omega)
 try simp only [pUt, pUn, sEt, sEz, sEs]
 refine tkn (i := 4) (v := .pointer (some ⟨SB + 1, 1, none⟩)) (fun W' hSW => ?_) ?_
 ·obtain ⟨a0, a1, a2, a3, a4, a5, a6, a7⟩ := HZ.out W' hSW
  first | (go_simp; done) | exact rfl | (go_simp; rfl) | (go_simp; omega)
 try simp only [pUt, pUn, sEt, sEz, sEs]
 refine tkn (i := 5) (v := .agg #[.int .i64 x.key.time, .int .i64 x.key.source, .int .i64 x.key.seq]) (fun W' hSW => ?_) ?_
 ·obtain ⟨a0, a1, a2, a3, a4, a5, a6, a7⟩ := HZ.out W' hSW
  first | (go_simp; done) | exact rfl | (go_simp; rfl) | (go_simp; omega)
 try simp only [pUt, pUn, sEt, sEz, sEs]
 refine take_call (i := 6) rfl (by kernel_rfl) (by kernel_rfl) (fun K hK => ?_)
 go_simp
 rw [Hz3.out]
 obtain ⟨V1, hV1⟩ : ∃ W, W3.alloc (.cells #[.int .i64 0, .int .i64 0, .int .i64 0] 26) = W := ⟨_, rfl⟩
 have fV : Fr0 none' W3 V1 := by rw [← hV1]; exact (Fr0.refl _ _).alloc _
 have hk1 : V1.heap[SB + 1 + 1 + 1]? = some (.cells #[.int .i64 0, .int .i64 0, .int .i64 0] 26 (0, 0)) := by rw [← hV1, ← Hz3.out]; exact World.alloc_heap_new W3 _
 rw [hV1]
 refine hK.out _ _ fV.drew (fun hS => ?_)
 clear hK K hV1 hHeld
 try simp only [pUt, pUn, sEt, sEz, sEs]
 refine tkn (i := 7) (v := .int .u8 3) (fun W' hSW => ?_) ?_
 ·obtain ⟨a0, a1, a2, a3, a4, a5, a6, a7⟩ := HZ.out W' hSW
  first | (go_simp; done) | exact rfl | (go_simp; rfl) | (go_simp; omega)
 try simp only [pUt, pUn, sEt, sEz, sEs]
 refine take_call (i := 8) rfl (by kernel_rfl) (by kernel_rfl) (fun K hK => ?_)
 have t0 := thaw_in hk1 0
 have t1 := thaw_in hk1 1
 have t2 := thaw_in hk1 2
 have u0 := cells_in hk1 0
 have u1 := cells_in hk1 1
 have u2 := cells_in hk1 2
 simp at u0 u1 u2
 go_simp
 obtain ⟨V2, hV2⟩ : ∃ W, ((V1.setCell ⟨SB + 1 + 1 + 1, 0, none⟩ (.int .i64 x.key.time)).setCell ⟨SB + 1 + 1 + 1, 1, none⟩ (.int .i64 x.key.source)).setCell ⟨SB + 1 + 1 + 1, 2, none⟩ (.int .i64 x.key.seq) = W := ⟨_, rfl⟩
 have hg3 : SB + 1 + 1 + 1 < W3.heap.size → none' (SB + 1 + 1 + 1) := fun e => by have := Hz3.out; omega
 have fV2 : Fr0 none' W3 V2 := by rw [← hV2]; exact ((fV.setCell hg3 _).setCell hg3 _).setCell hg3 _
 have hk2 : V2.heap[SB + 1 + 1 + 1]? = some (.cells #[.int .i64 x.key.time, .int .i64 x.key.source, .int .i64 x.key.seq] 26 (0, 0)) := by rw [← hV2]; exact heap_set_cell (heap_set_cell (heap_set_cell hk1 _) _) _
 rw [hV2]
 refine hK.out _ _ fV2.drew (fun hS => ?_)
 clear hK K hV2 t0 t1 t2 u0 u1 u2 hg3 fV hk1
 try simp only [pUt, pUn, sEt, sEz, sEs]
 refine wpAnyH_done (by kernel_rfl) ?_ _
 obtain ⟨V, hV⟩ : ∃ W, V2.drew = W := ⟨_, rfl⟩
 have fV : Fr0 none' W3 V := by rw [← hV]; exact fV2.drew
 have HK := Lib.hid (show V.heap[SB + 1 + 1 + 1]? = some (.cells #[.int .i64 x.key.time, .int .i64 x.key.source, .int .i64 x.key.seq] 26 (0, 0)) by rw [← hV]; exact hk2)
 have HRB := Lib.hid ((fV.block (SB + 1 + 1) (Array.getElem?_eq_some_iff.1 HRB.out).1 id).trans HRB.out)
 have HA := Lib.hid ((fV.block (SB + 1) (Array.getElem?_eq_some_iff.1 HA.out).1 id).trans HA.out)
 have HS := Lib.hid ((fV.block SB (Array.getElem?_eq_some_iff.1 HS.out).1 id).trans HS.out)
 have HF := Lib.hid (HF.out.trans fV)
 rw [hV]
 clear hV hk2 fV2 fV HZ Hz3 hS
 clear hkt
 have a0 := cells_in HA.out 0
 have a1 := cells_in HA.out 1
 have a2 := cells_in HA.out 2
 have a3 := cells_in HA.out 3
 have a4 := cells_in HA.out 4
 have a5 := cells_in HA.out 5
 have a6 := cells_in HA.out 6
 have a7 := cells_in HA.out 7
 have s0 := cells_in HS.out 0
 have s1 := cells_in HS.out 1
 have k0 := cells_in HK.out 0
 have k1 := cells_in HK.out 1
 have k2 := cells_in HK.out 2
 simp at a0 a1 a2 a3 a4 a5 a6 a7 s0 s1 k0 k1 k2
 go_wp2_with fail
 have HKv := HK
 have Hft := Lib.hid (show ∀ k, ft k → k < SB from fun k hk => by have := H.out.lt k hk; have := HSB.out; omega)
 have HP := (H.out.later HF.out).take (by omega)
 obtain ⟨X, hX⟩ : ∃ X, lstE E = X := ⟨_, rfl⟩
 obtain ⟨c, hc⟩ : ∃ c : Int, (if E = [] then 6 else 0) = c := ⟨_, rfl⟩
 obtain ⟨E', hE'⟩ : ∃ E', E.tail = E' := ⟨_, rfl⟩
 rw [hX, hc, hE'] at HP
 have HX := Lib.hid hX
 have Hc := Lib.hid hc
 have HE' := Lib.hid hE'
 unfold evV at HP
 refine HP.mono ?_
 rintro e w5 ⟨rfl, hq5, hf5⟩
 have HQ5 := Lib.hid hq5
 clear a0 a1 a2 a3 a4 a5 a6 a7 s0 s1 k0 k1 k2
 have HK := Lib.hid ((hf5.block (SB + 1 + 1 + 1) (Array.getElem?_eq_some_iff.1 HK.out).1 (fun h => by have := Hft.out _ h; omega)).trans HK.out)
 have HRB := Lib.hid ((hf5.block (SB + 1 + 1) (Array.getElem?_eq_some_iff.1 HRB.out).1 (fun h => by have := Hft.out _ h; omega)).trans HRB.out)
 have HA := Lib.hid ((hf5.block (SB + 1) (Array.getElem?_eq_some_iff.1 HA.out).1 (fun h => by have := Hft.out _ h; omega)).trans HA.out)
 have HS := Lib.hid ((hf5.block SB (Array.getElem?_eq_some_iff.1 HS.out).1 (fun h => by have := Hft.out _ h; omega)).trans HS.out)
 have F5 := Lib.hid (show Fr0 ft w w5 from (HF.out.mono (fun _ _ h => h.elim)).trans hf5)
 have HGR := Lib.hid (show ∀ k, qgrow ft V w5 k → ft k ∨ w.heap.size ≤ k from fun k hk => hk.imp id (fun h => Nat.le_trans HF.out.size h.1))
 have HKv5 := Lib.hid (show SB + 1 + 1 + 1 < w5.heap.size from (Array.getElem?_eq_some_iff.1 HK.out).1)
 have HRE := Lib.hid (HR.out.1.fr0 F5.out (fun g o s e => (HR.out.2.2 g o s e).1))
 have hX5 := hX
 have hC5 : (if E.isEmpty then (6 : Int) else 0) = c := by rw [← hc] ; cases E <;> rfl
 have hE5 := hE'
 clear HP hq5 hf5 hc hE' hX
 obtain ⟨XB, hXB⟩ : ∃ b, w5.heap.size = b := ⟨_, rfl⟩
 obtain ⟨V5, hV5⟩ : ∃ W, w5.alloc (.cells #[.int .i64 X.key.time, .int .i64 X.key.source, .int .i64 X.key.seq, .int .i64 X.to, .int .i64 X.value] 28) = W := ⟨_, rfl⟩
 have hf : Fr0 none' w5 V5 := by rw [← hV5]; exact (Fr0.refl _ _).alloc _
 have HXB := Lib.hid (show V5.heap[XB]? = some (.cells (cev X).toArray 28 (0, 0)) by rw [← hV5, ← hXB]; exact World.alloc_heap_new _ _)
 have HK := Lib.hid ((hf.block (SB + 1 + 1 + 1) (Array.getElem?_eq_some_iff.1 HK.out).1 id).trans HK.out)
 have HRB := Lib.hid ((hf.block (SB + 1 + 1) (Array.getElem?_eq_some_iff.1 HRB.out).1 id).trans HRB.out)
 have HA := Lib.hid ((hf.block (SB + 1) (Array.getElem?_eq_some_iff.1 HA.out).1 id).trans HA.out)
 have HS := Lib.hid ((hf.block SB (Array.getElem?_eq_some_iff.1 HS.out).1 id).trans HS.out)
 have HQ6 := Lib.hid (HQ5.out.later hf)
 have F6 := Lib.hid (F5.out.trans (hf.mono (fun _ _ h => h.elim)))
 have HRE6 := Lib.hid (HRE.out.later hf)
 have hsz := Lib.hid (show w5.heap.size ≤ V5.heap.size from hf.size)
 have HxB := Lib.hid hXB
 clear hf hXB
 have a0 := cells_in HA.out 0
 have a1 := cells_in HA.out 1
 have a2 := cells_in HA.out 2
 have a3 := cells_in HA.out 3
 have a4 := cells_in HA.out 4
 have a5 := cells_in HA.out 5
 have a6 := cells_in HA.out 6
 have a7 := cells_in HA.out 7
 have s0 := cells_in HS.out 0
 have s1 := cells_in HS.out 1
 have k0 := cells_in HK.out 0
 have k1 := cells_in HK.out 1
 have k2 := cells_in HK.out 2
 simp at a0 a1 a2 a3 a4 a5 a6 a7 s0 s1 k0 k1 k2
 subst hV5
 go_wp2_with fail
 have hPr := rTake_any (n : Int) E HRE6.out Hm.out (by omega) hmrc
 rw [hX5, hC5, hE5] at hPr
 unfold evV at hPr
 refine hPr.mono ?_
 rintro e w6 ⟨na, nm, nc, rfl, hA, hf⟩
 obtain ⟨b', c', hv, hnc, hne, hnb⟩ := hA
 simp only [Value.agg.injEq, Array.mk.injEq, List.cons.injEq, Value.slice.injEq, and_true, true_and] at hv
 obtain ⟨rfl, hnm, rfl⟩ := hv
 rw [← hnm] at hnc
 have Hnm := Lib.hid hnm.symm
 have HNE := Lib.hid hne
 have HNB := Lib.hid (show ∀ g o s, (na : Option Addr) = some ⟨g, o, s⟩ → (∃ o' s', ra = some ⟨g, o', s'⟩) ∨ (w5.heap.size ≤ g ∧ g < w6.heap.size) from fun g o s e => (hnb g o s e).imp id (fun h => ⟨Nat.le_trans hsz.out h.1, h.2⟩))
 clear a0 a1 a2 a3 a4 a5 a6 a7 s0 s1 k0 k1 k2
 have HK := Lib.hid ((hf.block (SB + 1 + 1 + 1) (Array.getElem?_eq_some_iff.1 HK.out).1 id).trans HK.out)
 have HRB := Lib.hid ((hf.block (SB + 1 + 1) (Array.getElem?_eq_some_iff.1 HRB.out).1 id).trans HRB.out)
 have HA := Lib.hid ((hf.block (SB + 1) (Array.getElem?_eq_some_iff.1 HA.out).1 id).trans HA.out)
 have HS := Lib.hid ((hf.block SB (Array.getElem?_eq_some_iff.1 HS.out).1 id).trans HS.out)
 have HXB := Lib.hid ((hf.block XB (Array.getElem?_eq_some_iff.1 HXB.out).1 id).trans HXB.out)
 have HXs := Lib.hid (show XB < w6.heap.size ∧ SB + 1 + 1 + 1 < XB from ⟨(Array.getElem?_eq_some_iff.1 HXB.out).1, by have := HxB.out; have := HKv5.out; omega⟩)
 have HQ6 := Lib.hid (HQ6.out.later hf)
 have F6 := Lib.hid (F6.out.trans (hf.mono (fun _ _ h => h.elim)))
 clear hPr hf hnm hne hnb hX5 hC5 hE5
 go_wp2_with fail
 obtain ⟨NB, hNB⟩ : ∃ B, w6.heap.size = B := ⟨_, rfl⟩
 obtain ⟨W7, hW7⟩ : ∃ W, (w6.alloc (.cells #[.int .i64 n, .slice na nm nc] 50)).alloc (.cells #[.int .i64 X.key.time, .int .i64 X.key.source, .int .i64 X.key.seq, .int .i64 X.to, .int .i64 X.value] 28) = W := ⟨_, rfl⟩
 have f7 : Fr0 none' w6 W7 := by rw [← hW7]; exact ((Fr0.refl _ _).alloc _).alloc _
 have HN := Lib.hid (show W7.heap[NB]? = some (.cells #[.int .i64 n, .slice na nm nc] 50 (0, 0)) by
  rw [← hW7, ← hNB]
  exact (((Fr0.refl none' (w6.alloc (.cells #[.int .i64 n, .slice na nm nc] 50))).alloc _).block w6.heap.size (by rw [World.size_alloc]; omega) id).trans (World.alloc_heap_new w6 _))
 have HYb := Lib.hid (show W7.heap[NB + 1]? = some (.cells (cev X).toArray 28 (0, 0)) by
  have h7 := World.alloc_heap_new (w6.alloc (.cells #[.int .i64 n, .slice na nm nc] 50)) (.cells #[.int .i64 X.key.time, .int .i64 X.key.source, .int .i64 X.key.seq, .int .i64 X.to, .int .i64 X.value] 28)
  rw [World.size_alloc, hNB] at h7
  rw [← hW7]
  exact h7)
 have HK := Lib.hid ((f7.block (SB + 1 + 1 + 1) (Array.getElem?_eq_some_iff.1 HK.out).1 id).trans HK.out)
 have HRB := Lib.hid ((f7.block (SB + 1 + 1) (Array.getElem?_eq_some_iff.1 HRB.out).1 id).trans HRB.out)
 have HA := Lib.hid ((f7.block (SB + 1) (Array.getElem?_eq_some_iff.1 HA.out).1 id).trans HA.out)
 have HS := Lib.hid ((f7.block SB (Array.getElem?_eq_some_iff.1 HS.out).1 id).trans HS.out)
 have HXB := Lib.hid ((f7.block XB (Array.getElem?_eq_some_iff.1 HXB.out).1 id).trans HXB.out)
 have HQ7 := Lib.hid (HQ6.out.later f7)
 have F7 := Lib.hid (F6.out.trans (f7.mono (fun _ _ h => h.elim)))
 have HNE := Lib.hid (HNE.out.later f7)
 have HNB := Lib.hid (show ∀ g o s, (na : Option Addr) = some ⟨g, o, s⟩ → (∃ o' s', ra = some ⟨g, o', s'⟩) ∨ (w5.heap.size ≤ g ∧ g < W7.heap.size) from fun g o s e => (HNB.out g o s e).imp id (fun h => ⟨h.1, Nat.lt_of_lt_of_le h.2 f7.size⟩))
 have HNr := Lib.hid (show SB + 1 + 1 < XB ∧ SB + 1 + 1 < NB from ⟨by have := HXs.out; omega, by have := HXs.out; omega⟩)
 rw [hW7]
 try rw [hNB]
 try rw [HxB.out]
 clear hW7 hNB f7
 have HY := Lib.hid (fun (W' : World) (hf : Fr0 (fun k => k = SB + 1 + 1) W7 W') => (show (W'.cell? ⟨NB, 0, none⟩ = some (.int .i64 n) ∧ W'.cell? ⟨NB, 1, none⟩ = some (.slice na nm nc)) ∧ EAt W' XB 0 X ∧ EAt W' (NB + 1) 0 X from by
  have hn := HNr.out
  have h1 := (hf.block XB (Array.getElem?_eq_some_iff.1 HXB.out).1 (fun e => by omega)).trans HXB.out
  have h2 := (hf.block (NB + 1) (Array.getElem?_eq_some_iff.1 HYb.out).1 (fun e => by omega)).trans HYb.out
  have h3 := (hf.block NB (Array.getElem?_eq_some_iff.1 HN.out).1 (fun e => by omega)).trans HN.out
  refine ⟨⟨by rw [cells_in h3]; rfl, by rw [cells_in h3]; rfl⟩, ⟨?_, ?_, ?_, ?_, ?_⟩, ⟨?_, ?_, ?_, ?_, ?_⟩⟩
  all_goals first | (rw [cells_in h1]; rfl) | (rw [cells_in h2]; rfl)))
 have hse : sameE ⟨⟨X.key.time, X.key.source, X.key.seq⟩, X.to, X.value⟩ ⟨⟨X.key.time, X.key.source, X.key.seq⟩, X.to, X.value⟩ = true := by unfold sameE; simp
 refine wp_region_held_drew (S := fun W' => Fr0 (fun k => k = SB + 1 + 1) W7 W') (by kernel_rfl) ((Fr0.refl _ W7).drew) (fun hHeld => ?_)
 refine tkn (i := 0) (v := .pointer (some ⟨qb, 0, none⟩)) (fun W' hSW => ?_) ?_
 ·obtain ⟨⟨n0, n1⟩, ⟨x0, x1, x2, x3, x4⟩, y0, y1, y2, y3, y4⟩ := HY.out W' hSW
  simp only [Nat.zero_add] at x1 x2 x3 x4 y1 y2 y3 y4
  first | (go_simp; done) | exact rfl | (go_simp; rfl) | (go_simp; omega)
 try simp only [pUt, pUn, sEt, sEz, sEs]
 refine tkn (i := 1) (v := .agg #[.int .i64 n, .slice na nm nc]) (fun W' hSW => ?_) ?_
 ·obtain ⟨⟨n0, n1⟩, ⟨x0, x1, x2, x3, x4⟩, y0, y1, y2, y3, y4⟩ := HY.out W' hSW
  simp only [Nat.zero_add] at x1 x2 x3 x4 y1 y2 y3 y4
  first | (go_simp; done) | exact rfl | (go_simp; rfl) | (go_simp; omega)
 try simp only [pUt, pUn, sEt, sEz, sEs]
 refine tkn (i := 2) (v := .agg #[.int .i64 X.key.time, .int .i64 X.key.source, .int .i64 X.key.seq, .int .i64 X.to, .int .i64 X.value]) (fun W' hSW => ?_) ?_
 ·obtain ⟨⟨n0, n1⟩, ⟨x0, x1, x2, x3, x4⟩, y0, y1, y2, y3, y4⟩ := HY.out W' hSW
  simp only [Nat.zero_add] at x1 x2 x3 x4 y1 y2 y3 y4
  first | (go_simp; done) | exact rfl | (go_simp; rfl) | (go_simp; omega)
 try simp only [pUt, pUn, sEt, sEz, sEs]
 refine tkn (i := 3) (v := .agg #[.int .i64 X.key.time, .int .i64 X.key.source, .int .i64 X.key.seq, .int .i64 X.to, .int .i64 X.value]) (fun W' hSW => ?_) ?_
 ·obtain ⟨⟨n0, n1⟩, ⟨x0, x1, x2, x3, x4⟩, y0, y1, y2, y3, y4⟩ := HY.out W' hSW
  simp only [Nat.zero_add] at x1 x2 x3 x4 y1 y2 y3 y4
  first | (go_simp; done) | exact rfl | (go_simp; rfl) | (go_simp; omega)
 try simp only [pUt, pUn, sEt, sEz, sEs]
 refine tkn (i := 4) (v := .bool true) (fun W' hSW => ?_) ?_
 ·obtain ⟨⟨n0, n1⟩, ⟨x0, x1, x2, x3, x4⟩, y0, y1, y2, y3, y4⟩ := HY.out W' hSW
  simp only [Nat.zero_add] at x1 x2 x3 x4 y1 y2 y3 y4
  first | (go_simp; done) | exact rfl | (go_simp; rfl) | (go_simp; omega)
 try simp only [pUt, pUn, sEt, sEz, sEs]
 refine tkn (i := 5) (v := .bool true) (fun W' hSW => ?_) ?_
 ·obtain ⟨⟨n0, n1⟩, ⟨x0, x1, x2, x3, x4⟩, y0, y1, y2, y3, y4⟩ := HY.out W' hSW
  simp only [Nat.zero_add] at x1 x2 x3 x4 y1 y2 y3 y4
  first | (go_simp; done) | exact rfl | (go_simp; rfl) | (go_simp; omega)
 try simp only [pUt, pUn, sEt, sEz, sEs]
 refine tkn (i := 6) (v := .int .i64 c) (fun W' hSW => ?_) ?_
 ·obtain ⟨⟨n0, n1⟩, ⟨x0, x1, x2, x3, x4⟩, y0, y1, y2, y3, y4⟩ := HY.out W' hSW
  simp only [Nat.zero_add] at x1 x2 x3 x4 y1 y2 y3 y4
  first | (go_simp; done) | exact rfl | (go_simp; rfl) | (go_simp; omega)
 try simp only [pUt, pUn, sEt, sEz, sEs]
 refine tkn (i := 7) (v := .int .i64 c) (fun W' hSW => ?_) ?_
 ·obtain ⟨⟨n0, n1⟩, ⟨x0, x1, x2, x3, x4⟩, y0, y1, y2, y3, y4⟩ := HY.out W' hSW
  simp only [Nat.zero_add] at x1 x2 x3 x4 y1 y2 y3 y4
  first | (go_simp; done) | exact rfl | (go_simp; rfl) | (go_simp; omega)
 try simp only [pUt, pUn, sEt, sEz, sEs]
 refine tkn (i := 8) (v := .bool true) (fun W' hSW => ?_) ?_
 ·obtain ⟨⟨n0, n1⟩, ⟨x0, x1, x2, x3, x4⟩, y0, y1, y2, y3, y4⟩ := HY.out W' hSW
  simp only [Nat.zero_add] at x1 x2 x3 x4 y1 y2 y3 y4
  first | (go_simp; done) | exact rfl | (go_simp; rfl) | (go_simp; omega)
 try simp only [pUt, pUn, sEt, sEz, sEs]
 refine tkn (i := 9) (v := .bool true) (fun W' hSW => ?_) ?_
 ·obtain ⟨⟨n0, n1⟩, ⟨x0, x1, x2, x3, x4⟩, y0, y1, y2, y3, y4⟩ := HY.out W' hSW
  simp only [Nat.zero_add] at x1 x2 x3 x4 y1 y2 y3 y4
  first | (go_simp; done) | exact rfl | (go_simp; rfl) | (go_simp; omega)
 try simp only [pUt, pUn, sEt, sEz, sEs]
 refine tkn (i := 10) (v := .pointer (some ⟨qb, 0, none⟩)) (fun W' hSW => ?_) ?_
 ·obtain ⟨⟨n0, n1⟩, ⟨x0, x1, x2, x3, x4⟩, y0, y1, y2, y3, y4⟩ := HY.out W' hSW
  simp only [Nat.zero_add] at x1 x2 x3 x4 y1 y2 y3 y4
  first | (go_simp; done) | exact rfl | (go_simp; rfl) | (go_simp; omega)
 try simp only [pUt, pUn, sEt, sEz, sEs]
 have t0 := thaw_in HRB.out 0
 have t1 := thaw_in HRB.out 1
 have u0 := cells_in HRB.out 0
 have u1 := cells_in HRB.out 1
 simp at u0 u1
 refine take_call (i := 11) rfl (by kernel_rfl) (by kernel_rfl) (fun K hK => ?_)
 go_simp
 obtain ⟨W9, hW9⟩ : ∃ W, ((W7).setCell ⟨SB + 1 + 1, 0, none⟩ (.int .i64 n)).setCell ⟨SB + 1 + 1, 1, none⟩ (.slice na nm nc) = W := ⟨_, rfl⟩
 have f9 : Fr0 (fun k => k = SB + 1 + 1) (W7) W9 := by rw [← hW9]; exact ((Fr0.refl (fun k => k = SB + 1 + 1) (W7)).setCell (fun _ => rfl) _).setCell (fun _ => rfl) _
 have hb9 : W9.heap[SB + 1 + 1]? = some (.cells #[.int .i64 n, .slice na nm nc] 50 (0, 0)) := by rw [← hW9]; exact heap_set_cell (heap_set_cell HRB.out _) _
 rw [hW9]
 refine hK.out _ _ f9.drew (fun hS => ?_)
 clear hK K hW9 t0 t1 u0 u1
 try simp only [pUt, pUn, sEt, sEz, sEs]
 refine tkn (i := 12) (v := .bool true) (fun W' hSW => ?_) ?_
 ·obtain ⟨⟨n0, n1⟩, ⟨x0, x1, x2, x3, x4⟩, y0, y1, y2, y3, y4⟩ := HY.out W' hSW
  simp only [Nat.zero_add] at x1 x2 x3 x4 y1 y2 y3 y4
  first | (go_simp; done) | exact rfl | (go_simp; rfl) | (go_simp; omega)
 try simp only [pUt, pUn, sEt, sEz, sEs]
 refine wpAnyH_done (by kernel_rfl) ?_ _
 obtain ⟨U9, hU⟩ : ∃ W, W9.drew = W := ⟨_, rfl⟩
 have hbU : U9.heap[SB + 1 + 1]? = some (.cells #[.int .i64 n, .slice na nm nc] 50 (0, 0)) := by rw [← hU]; exact hb9
 have f79 : Fr0 (fun k => k = SB + 1 + 1) W7 U9 := by rw [← hU]; exact f9.drew
 rw [hU]
 clear hb9 f9 hU hS hHeld
 have hb9 := hbU
 have r0 := cells_in hb9 0
 have r1 := cells_in hb9 1
 simp at r0 r1
 have HQ9 := Lib.hid (HQ7.out.fr0 f79 (fun k hk e => by
  subst e
  rcases hk with hk | hk
  ·have := Hft.out _ hk; omega
  ·have := hk.1; have := (Array.getElem?_eq_some_iff.1 HKv.out).1; omega))
 have F79 := Lib.hid f79
 clear f79 hbU HY
 go_wp2_with fail
 have hgr := HGR.out
 have hlt5 := HQ5.out.lt
 have hcr := HR.out.2.2
 have hcase : ∀ g o s, (na : Option Addr) = some ⟨g, o, s⟩ → g < (U9).heap.size ∧ g ≠ SB + 1 + 1 ∧ ¬ (qgrow ft V w5) g := fun g o s e => by
  have h2 := F79.out.size
  rcases HNB.out g o s e with ⟨o', s', e'⟩ | h1
  ·obtain ⟨h3, h4⟩ := hcr g o' s' e'
   have := HSB.out
   have := F7.out.size
   refine ⟨by omega, by omega, fun hk => ?_⟩
   rcases hgr g hk with h5 | h5
   ·exact h3 h5
   ·omega
  ·have := HKv5.out
   refine ⟨by omega, by omega, fun hk => ?_⟩
   have := hlt5 g hk
   omega
 refine bodyPost_ret (v := .tuple #[.pointer (some ⟨qb, 0, none⟩), .agg #[.int .i64 n, .slice na nm nc], .bool true]) (by simp [results, Tryz.results20, go_sem, r0, r1]) rfl ⟨qb, T, E', qgrow ft V w5, na, nc, by rw [Hnm.out], HQ9.out, by omega, hgr, ⟨HNE.out.fr0 F79.out (fun g o s e => (hcase g o s e).2.1), by rw [Hnm.out]; exact hnc, fun g o s e => ⟨(hcase g o s e).2.2, (hcase g o s e).1⟩⟩, F7.out.trans' F79.out (fun k hk e => by have := HSB.out; omega), fun g o s e => (HNB.out g o s e).imp id (fun h => by have := HSB.out; have := HKv5.out; omega)⟩
theorem rCancel_any {w : World} {a : Option Addr} {m cap : Nat} (c : Int) (E : List Ev) (h : EsIn w a E) (hl : E.length = m) (hm : m ≤ 1000) (hc : m ≤ cap) (ho : OnceE E) (p : Int × Int) :
  Calls Tryz.prog 50 #[.agg #[.int .i64 c, .slice a m cap], .int .i64 p.1, .int .i64 p.2] w fun e w' => ∃ a' n' cap', e = .returned (.tuple #[.agg #[.int .i64 c, .slice a' n' cap'], evV ((findE p E).getD zeroEv), .int .i64 (if (findE p E).isSome then 0 else 6)]) ∧ RAt w' a w.heap.size c (delE p E) (.agg #[.int .i64 c, .slice a' n' cap']) ∧ Fr0 none' w w' := by
 rcases at_find p E with ⟨h1, h2⟩ | ⟨k, x, h1, hx, h2, hn, _⟩
 ·rw [h2, delE_none (findE_none.1 h2)]
  refine (rCancel_none c E h hl hm hc p h2).mono ?_
  rintro e w' ⟨rfl, hf⟩
  have hA := RAt.same (N := w.heap.size) (c := c) h hf (by rw [hl]; exact hc)
  rw [hl] at hA
  exact ⟨a, m, cap, rfl, hA, hf⟩
 ·rw [h2]
  refine (rCancel_some c E h hl hm hc p x h1 hx).mono ?_
  rintro e w' ⟨v, rfl, hA, hf⟩
  rw [← delE_some ho hx, hn] at hA
  obtain ⟨a', cap', rfl, h3⟩ := hA
  exact ⟨a', _, cap', rfl, ⟨a', cap', rfl, h3⟩, hf⟩
set_option maxRecDepth 100000 in
set_option maxHeartbeats 4000000 in
theorem do_5 {w : World} {qb n T m rc lk lc : Nat} {E : List Ev} {ft : Nat → Prop} {ra la : Option Addr} {kd t : Int} {x : Ev} (h : QIs w qb n T E ft) (hT : T ≤ 1000000) (hr : RsK w n E ra rc ft) (hm : E.length = m) (hkd : 0 ≤ kd ∧ kd < 256)
  (hk : kd % 10 = 5) (hx64 : I64 x.key.source ∧ I64 x.key.seq) :
  Calls Tryz.prog 20 #[.pointer (some ⟨qb, 0, none⟩), .agg #[.int .i64 n, .slice ra m rc], actV kd x la lk lc t] w (DoPost n T w ft ra) := by
 have H := Lib.hid h
 have HR := Lib.hid hr
 have Hm := Lib.hid hm
 have hle := h.le
 have hmrc : m ≤ rc := by have := hr.2.1; rw [hm] at this; exact this
 have hm256 : m ≤ 256 := by omega
 unfold actV
 clear h hr hle hm
 go_enter Tryz.func20, Tryz.ntmps20
 go_wp2_with fail
 have hkt : kd.tmod 10 = 5 := by rw [Int.tmod_eq_emod_of_nonneg hkd.1]; exact hk
 clear hk
 obtain ⟨SB, hSB⟩ : ∃ B, w.heap.size = B := ⟨_, rfl⟩
 obtain ⟨W1, hW1⟩ : ∃ W, w.alloc (.cells #[.int .i64 n, .slice ra m rc] 50) = W := ⟨_, rfl⟩
 have hs1 : W1.heap[SB]? = some (.cells #[.int .i64 n, .slice ra m rc] 50 (0, 0)) := by rw [← hW1, ← hSB]; exact World.alloc_heap_new w _
 have f1 : Fr0 none' w W1 := by rw [← hW1]; exact (Fr0.refl _ _).alloc _
 have z1 : W1.heap.size = SB + 1 := by rw [← hW1, World.size_alloc, hSB]
 rw [hW1]
 try rw [hSB]
 obtain ⟨W2, hW2⟩ : ∃ W, W1.alloc (.cells #[.int .u8 kd, .int .i64 x.key.time, .int .i64 x.key.source, .int .i64 x.key.seq, .int .i64 x.to, .int .i64 x.value, .slice la lk lc, .int .i64 t] 32) = W := ⟨_, rfl⟩
 have f2 : Fr0 none' W1 W2 := by rw [← hW2]; exact (Fr0.refl _ _).alloc _
 have hx2 : W2.heap[SB + 1]? = some (.cells #[.int .u8 kd, .int .i64 x.key.time, .int .i64 x.key.source, .int .i64 x.key.seq, .int .i64 x.to, .int .i64 x.value, .slice la lk lc, .int .i64 t] 32 (0, 0)) := by rw [← hW2, ← z1]; exact World.alloc_heap_new W1 _
 have z2 : W2.heap.size = SB + 1 + 1 := by rw [← hW2, World.size_alloc, z1]
 rw [hW2]
 obtain ⟨W3, hW3⟩ : ∃ W, W2.alloc (.cells #[.int .i64 0, .slice none 0 0] 50) = W := ⟨_, rfl⟩
 have f3 : Fr0 none' W2 W3 := by rw [← hW3]; exact (Fr0.refl _ _).alloc _
 have HRB := Lib.hid (show W3.heap[SB + 1 + 1]? = some (.cells #[.int .i64 0, .slice none 0 0] 50 (0, 0)) by rw [← hW3, ← z2]; exact World.alloc_heap_new W2 _)
 have HA := Lib.hid ((f3.block (SB + 1) (Array.getElem?_eq_some_iff.1 hx2).1 id).trans hx2)
 have HS := Lib.hid (((f2.trans f3).block SB (Array.getElem?_eq_some_iff.1 hs1).1 id).trans hs1)
 have HF := Lib.hid ((f1.trans f2).trans f3)
 have HSB := Lib.hid hSB
 have z3 : W3.heap.size = SB + 1 + 1 + 1 := by rw [← hW3, World.size_alloc, z2]
 have Hz3 := Lib.hid z3
 rw [hW3]
 clear hW1 hSB hs1 f1 hW2 f2 f3 hW3 z1 z2 hx2 z3
 have HZ := Lib.hid (fun (W' : World) (hf : Fr0 none' W3 W') => (show W'.cell? ⟨SB + 1, 0, none⟩ = some (.int .u8 kd) ∧ W'.cell? ⟨SB + 1, 1, none⟩ = some (.int .i64 x.key.time) ∧ W'.cell? ⟨SB + 1, 2, none⟩ = some (.int .i64 x.key.source) ∧ W'.cell? ⟨SB + 1, 3, none⟩ = some (.int .i64 x.key.seq) ∧ W'.cell? ⟨SB + 1, 4, none⟩ = some (.int .i64 x.to) ∧ W'.cell? ⟨SB + 1, 5, none⟩ = some (.int .i64 x.value) ∧ W'.cell? ⟨SB + 1, 6, none⟩ = some (.slice la lk lc) ∧ W'.cell? ⟨SB + 1, 7, none⟩ = some (.int .i64 t) from by
  have h1 := (hf.block (SB + 1) (Array.getElem?_eq_some_iff.1 HA.out).1 id).trans HA.out
  refine ⟨?_, ?_, ?_, ?_, ?_, ?_, ?_, ?_⟩ <;> (rw [cells_in h1]; rfl)))
 refine wp_region_held_drew (S := fun W' => Fr0 none' W3 W') (by kernel_rfl) ((Fr0.refl _ W3).drew) (fun hHeld => ?_)
 refine tkn (i := 0) (v := .pointer (some ⟨SB + 1, 0, none⟩)) (fun W' hSW => ?_) ?_
 ·obtain ⟨a0, a1, a2, a3, a4, a5, a6, a7⟩ := HZ.out W' hSW
  first | (go_simp; done) | exact rfl | (go_simp; rfl) | (go_simp; omega)
 try simp only [pUt, pUn, sEt, sEz, sEs]
 refine tkn (i := 1) (v := .int .u8 kd) (fun W' hSW => ?_) ?_
 ·obtain ⟨a0, a1, a2, a3, a4, a5, a6, a7⟩ := HZ.out W' hSW
  first | (go_simp; done) | exact rfl | (go_simp; rfl) | (go_simp; omega)
 try simp only [pUt, pUn, sEt, sEz, sEs]
 refine tkn (i := 2) (v := .int .u8 5) (fun W' hSW => ?_) ?_
 ·obtain ⟨a0, a1, a2, a3, a4, a5, a6, a7⟩ := HZ.out W' hSW
  first | (go_simp; done) | exact rfl | (go_simp; rfl) | (go_simp; omega)
 try simp only [pUt, pUn, sEt, sEz, sEs]
 refine tkn (i := 3) (v := .pointer (some ⟨SB + 1, 1, none⟩)) (fun W' hSW => ?_) ?_
 ·obtain ⟨a0, a1, a2, a3, a4, a5, a6, a7⟩ := HZ.out W' hSW
  first | (go_simp; done) | exact rfl | (go_simp; rfl) | (go_simp; omega)
 try simp only [pUt, pUn, sEt, sEz, sEs]
 refine tkn (i := 4) (v := .pointer (some ⟨SB + 1, 1, none⟩)) (fun W' hSW => ?_) ?_
 ·obtain ⟨a0, a1, a2, a3, a4, a5, a6, a7⟩ := HZ.out W' hSW
  first | (go_simp; done) | exact rfl | (go_simp; rfl) | (go_simp; omega)
 try simp only [pUt, pUn, sEt, sEz, sEs]
 refine tkn (i := 5) (v := .agg #[.int .i64 x.key.time, .int .i64 x.key.source, .int .i64 x.key.seq]) (fun W' hSW => ?_) ?_
 ·obtain ⟨a0, a1, a2, a3, a4, a5, a6, a7⟩ := HZ.out W' hSW
  first | (go_simp; done) | exact rfl | (go_simp; rfl) | (go_simp; omega)
 try simp only [pUt, pUn, sEt, sEz, sEs]
 refine take_call (i := 6) rfl (by kernel_rfl) (by kernel_rfl) (fun K hK => ?_)
 go_simp
 rw [Hz3.out]
 obtain ⟨V1, hV1⟩ : ∃ W, W3.alloc (.cells #[.int .i64 0, .int .i64 0, .int .i64 0] 26) = W := ⟨_, rfl⟩
 have fV : Fr0 none' W3 V1 := by rw [← hV1]; exact (Fr0.refl _ _).alloc _
 have hk1 : V1.heap[SB + 1 + 1 + 1]? = some (.cells #[.int .i64 0, .int .i64 0, .int .i64 0] 26 (0, 0)) := by rw [← hV1, ← Hz3.out]; exact World.alloc_heap_new W3 _
 rw [hV1]
 refine hK.out _ _ fV.drew (fun hS => ?_)
 clear hK K hV1 hHeld
 try simp only [pUt, pUn, sEt, sEz, sEs]
 refine tkn (i := 7) (v := .int .u8 5) (fun W' hSW => ?_) ?_
 ·obtain ⟨a0, a1, a2, a3, a4, a5, a6, a7⟩ := HZ.out W' hSW
  first | (go_simp; done) | exact rfl | (go_simp; rfl) | (go_simp; omega)
 try simp only [pUt, pUn, sEt, sEz, sEs]
 refine take_call (i := 8) rfl (by kernel_rfl) (by kernel_rfl) (fun K hK => ?_)
 have t0 := thaw_in hk1 0
 have t1 := thaw_in hk1 1
 have t2 := thaw_in hk1 2
 have u0 := cells_in hk1 0
 have u1 := cells_in hk1 1
 have u2 := cells_in hk1 2
 simp at u0 u1 u2
 go_simp
 obtain ⟨V2, hV2⟩ : ∃ W, ((V1.setCell ⟨SB + 1 + 1 + 1, 0, none⟩ (.int .i64 x.key.time)).setCell ⟨SB + 1 + 1 + 1, 1, none⟩ (.int .i64 x.key.source)).setCell ⟨SB + 1 + 1 + 1, 2, none⟩ (.int .i64 x.key.seq) = W := ⟨_, rfl⟩
 have hg3 : SB + 1 + 1 + 1 < W3.heap.size → none' (SB + 1 + 1 + 1) := fun e => by have := Hz3.out; omega
 have fV2 : Fr0 none' W3 V2 := by rw [← hV2]; exact ((fV.setCell hg3 _).setCell hg3 _).setCell hg3 _
 have hk2 : V2.heap[SB + 1 + 1 + 1]? = some (.cells #[.int .i64 x.key.time, .int .i64 x.key.source, .int .i64 x.key.seq] 26 (0, 0)) := by rw [← hV2]; exact heap_set_cell (heap_set_cell (heap_set_cell hk1 _) _) _
 rw [hV2]
 refine hK.out _ _ fV2.drew (fun hS => ?_)
 clear hK K hV2 t0 t1 t2 u0 u1 u2 hg3 fV hk1
 try simp only [pUt, pUn, sEt, sEz, sEs]
 refine wpAnyH_done (by kernel_rfl) ?_ _
 obtain ⟨V, hV⟩ : ∃ W, V2.drew = W := ⟨_, rfl⟩
 have fV : Fr0 none' W3 V := by rw [← hV]; exact fV2.drew
 have HK := Lib.hid (show V.heap[SB + 1 + 1 + 1]? = some (.cells #[.int .i64 x.key.time, .int .i64 x.key.source, .int .i64 x.key.seq] 26 (0, 0)) by rw [← hV]; exact hk2)
 have HRB := Lib.hid ((fV.block (SB + 1 + 1) (Array.getElem?_eq_some_iff.1 HRB.out).1 id).trans HRB.out)
 have HA := Lib.hid ((fV.block (SB + 1) (Array.getElem?_eq_some_iff.1 HA.out).1 id).trans HA.out)
 have HS := Lib.hid ((fV.block SB (Array.getElem?_eq_some_iff.1 HS.out).1 id).trans HS.out)
 have HF := Lib.hid (HF.out.trans fV)
 rw [hV]
 clear hV hk2 fV2 fV HZ Hz3 hS
 clear hkt
 have a0 := cells_in HA.out 0
 have a1 := cells_in HA.out 1
 have a2 := cells_in HA.out 2
 have a3 := cells_in HA.out 3
 have a4 := cells_in HA.out 4
 have a5 := cells_in HA.out 5
 have a6 := cells_in HA.out 6
 have a7 := cells_in HA.out 7
 have s0 := cells_in HS.out 0
 have s1 := cells_in HS.out 1
 have k0 := cells_in HK.out 0
 have k1 := cells_in HK.out 1
 have k2 := cells_in HK.out 2
 simp at a0 a1 a2 a3 a4 a5 a6 a7 s0 s1 k0 k1 k2
 go_wp2_with fail
 have HKv := HK
 have Hft := Lib.hid (show ∀ k, ft k → k < SB from fun k hk => by have := H.out.lt k hk; have := HSB.out; omega)
 have HP := (H.out.later HF.out).cancel (nm := x.name) hx64.1 hx64.2 (by omega)
 obtain ⟨X, hX⟩ : ∃ X, (findE x.name E).getD zeroEv = X := ⟨_, rfl⟩
 obtain ⟨c, hc⟩ : ∃ c : Int, (if (findE x.name E).isSome then 0 else 6) = c := ⟨_, rfl⟩
 obtain ⟨E', hE'⟩ : ∃ E', delE x.name E = E' := ⟨_, rfl⟩
 rw [hX, hc, hE'] at HP
 have HX := Lib.hid hX
 have Hc := Lib.hid hc
 have HE' := Lib.hid hE'
 unfold evV at HP
 refine HP.mono ?_
 rintro e w5 ⟨rfl, hq5, hf5⟩
 have HQ5 := Lib.hid hq5
 clear a0 a1 a2 a3 a4 a5 a6 a7 s0 s1 k0 k1 k2
 have HK := Lib.hid ((hf5.block (SB + 1 + 1 + 1) (Array.getElem?_eq_some_iff.1 HK.out).1 (fun h => by have := Hft.out _ h; omega)).trans HK.out)
 have HRB := Lib.hid ((hf5.block (SB + 1 + 1) (Array.getElem?_eq_some_iff.1 HRB.out).1 (fun h => by have := Hft.out _ h; omega)).trans HRB.out)
 have HA := Lib.hid ((hf5.block (SB + 1) (Array.getElem?_eq_some_iff.1 HA.out).1 (fun h => by have := Hft.out _ h; omega)).trans HA.out)
 have HS := Lib.hid ((hf5.block SB (Array.getElem?_eq_some_iff.1 HS.out).1 (fun h => by have := Hft.out _ h; omega)).trans HS.out)
 have F5 := Lib.hid (show Fr0 ft w w5 from (HF.out.mono (fun _ _ h => h.elim)).trans hf5)
 have HGR := Lib.hid (show ∀ k, qgrow ft V w5 k → ft k ∨ w.heap.size ≤ k from fun k hk => hk.imp id (fun h => Nat.le_trans HF.out.size h.1))
 have HKv5 := Lib.hid (show SB + 1 + 1 + 1 < w5.heap.size from (Array.getElem?_eq_some_iff.1 HK.out).1)
 have HRE := Lib.hid (HR.out.1.fr0 F5.out (fun g o s e => (HR.out.2.2 g o s e).1))
 have hX5 := hX
 have hC5 : (if (findE x.name E).isSome then (0 : Int) else 6) = c := by rw [← hc] <;> skip
 have hE5 := hE'
 clear HP hq5 hf5 hc hE' hX
 obtain ⟨XB, hXB⟩ : ∃ b, w5.heap.size = b := ⟨_, rfl⟩
 obtain ⟨V5, hV5⟩ : ∃ W, w5.alloc (.cells #[.int .i64 X.key.time, .int .i64 X.key.source, .int .i64 X.key.seq, .int .i64 X.to, .int .i64 X.value] 28) = W := ⟨_, rfl⟩
 have hf : Fr0 none' w5 V5 := by rw [← hV5]; exact (Fr0.refl _ _).alloc _
 have HXB := Lib.hid (show V5.heap[XB]? = some (.cells (cev X).toArray 28 (0, 0)) by rw [← hV5, ← hXB]; exact World.alloc_heap_new _ _)
 have HK := Lib.hid ((hf.block (SB + 1 + 1 + 1) (Array.getElem?_eq_some_iff.1 HK.out).1 id).trans HK.out)
 have HRB := Lib.hid ((hf.block (SB + 1 + 1) (Array.getElem?_eq_some_iff.1 HRB.out).1 id).trans HRB.out)
 have HA := Lib.hid ((hf.block (SB + 1) (Array.getElem?_eq_some_iff.1 HA.out).1 id).trans HA.out)
 have HS := Lib.hid ((hf.block SB (Array.getElem?_eq_some_iff.1 HS.out).1 id).trans HS.out)
 have HQ6 := Lib.hid (HQ5.out.later hf)
 have F6 := Lib.hid (F5.out.trans (hf.mono (fun _ _ h => h.elim)))
 have HRE6 := Lib.hid (HRE.out.later hf)
 have hsz := Lib.hid (show w5.heap.size ≤ V5.heap.size from hf.size)
 have HxB := Lib.hid hXB
 clear hf hXB
 have a0 := cells_in HA.out 0
 have a1 := cells_in HA.out 1
 have a2 := cells_in HA.out 2
 have a3 := cells_in HA.out 3
 have a4 := cells_in HA.out 4
 have a5 := cells_in HA.out 5
 have a6 := cells_in HA.out 6
 have a7 := cells_in HA.out 7
 have s0 := cells_in HS.out 0
 have s1 := cells_in HS.out 1
 have k0 := cells_in HK.out 0
 have k1 := cells_in HK.out 1
 have k2 := cells_in HK.out 2
 simp at a0 a1 a2 a3 a4 a5 a6 a7 s0 s1 k0 k1 k2
 subst hV5
 go_wp2_with fail
 have hPr := rCancel_any (n : Int) E HRE6.out Hm.out (by omega) hmrc H.out.good.2.1 x.name
 rw [hX5, hC5, hE5] at hPr
 unfold evV at hPr
 refine hPr.mono ?_
 rintro e w6 ⟨na, nm, nc, rfl, hA, hf⟩
 obtain ⟨b', c', hv, hnc, hne, hnb⟩ := hA
 simp only [Value.agg.injEq, Array.mk.injEq, List.cons.injEq, Value.slice.injEq, and_true, true_and] at hv
 obtain ⟨rfl, hnm, rfl⟩ := hv
 rw [← hnm] at hnc
 have Hnm := Lib.hid hnm.symm
 have HNE := Lib.hid hne
 have HNB := Lib.hid (show ∀ g o s, (na : Option Addr) = some ⟨g, o, s⟩ → (∃ o' s', ra = some ⟨g, o', s'⟩) ∨ (w5.heap.size ≤ g ∧ g < w6.heap.size) from fun g o s e => (hnb g o s e).imp id (fun h => ⟨Nat.le_trans hsz.out h.1, h.2⟩))
 clear a0 a1 a2 a3 a4 a5 a6 a7 s0 s1 k0 k1 k2
 have HK := Lib.hid ((hf.block (SB + 1 + 1 + 1) (Array.getElem?_eq_some_iff.1 HK.out).1 id).trans HK.out)
 have HRB := Lib.hid ((hf.block (SB + 1 + 1) (Array.getElem?_eq_some_iff.1 HRB.out).1 id).trans HRB.out)
 have HA := Lib.hid ((hf.block (SB + 1) (Array.getElem?_eq_some_iff.1 HA.out).1 id).trans HA.out)
 have HS := Lib.hid ((hf.block SB (Array.getElem?_eq_some_iff.1 HS.out).1 id).trans HS.out)
 have HXB := Lib.hid ((hf.block XB (Array.getElem?_eq_some_iff.1 HXB.out).1 id).trans HXB.out)
 have HXs := Lib.hid (show XB < w6.heap.size ∧ SB + 1 + 1 + 1 < XB from ⟨(Array.getElem?_eq_some_iff.1 HXB.out).1, by have := HxB.out; have := HKv5.out; omega⟩)
 have HQ6 := Lib.hid (HQ6.out.later hf)
 have F6 := Lib.hid (F6.out.trans (hf.mono (fun _ _ h => h.elim)))
 clear hPr hf hnm hne hnb hX5 hC5 hE5
 go_wp2_with fail
 obtain ⟨NB, hNB⟩ : ∃ B, w6.heap.size = B := ⟨_, rfl⟩
 obtain ⟨W7, hW7⟩ : ∃ W, (w6.alloc (.cells #[.int .i64 n, .slice na nm nc] 50)).alloc (.cells #[.int .i64 X.key.time, .int .i64 X.key.source, .int .i64 X.key.seq, .int .i64 X.to, .int .i64 X.value] 28) = W := ⟨_, rfl⟩
 have f7 : Fr0 none' w6 W7 := by rw [← hW7]; exact ((Fr0.refl _ _).alloc _).alloc _
 have HN := Lib.hid (show W7.heap[NB]? = some (.cells #[.int .i64 n, .slice na nm nc] 50 (0, 0)) by
  rw [← hW7, ← hNB]
  exact (((Fr0.refl none' (w6.alloc (.cells #[.int .i64 n, .slice na nm nc] 50))).alloc _).block w6.heap.size (by rw [World.size_alloc]; omega) id).trans (World.alloc_heap_new w6 _))
 have HYb := Lib.hid (show W7.heap[NB + 1]? = some (.cells (cev X).toArray 28 (0, 0)) by
  have h7 := World.alloc_heap_new (w6.alloc (.cells #[.int .i64 n, .slice na nm nc] 50)) (.cells #[.int .i64 X.key.time, .int .i64 X.key.source, .int .i64 X.key.seq, .int .i64 X.to, .int .i64 X.value] 28)
  rw [World.size_alloc, hNB] at h7
  rw [← hW7]
  exact h7)
 have HK := Lib.hid ((f7.block (SB + 1 + 1 + 1) (Array.getElem?_eq_some_iff.1 HK.out).1 id).trans HK.out)
 have HRB := Lib.hid ((f7.block (SB + 1 + 1) (Array.getElem?_eq_some_iff.1 HRB.out).1 id).trans HRB.out)
 have HA := Lib.hid ((f7.block (SB + 1) (Array.getElem?_eq_some_iff.1 HA.out).1 id).trans HA.out)
 have HS := Lib.hid ((f7.block SB (Array.getElem?_eq_some_iff.1 HS.out).1 id).trans HS.out)
 have HXB := Lib.hid ((f7.block XB (Array.getElem?_eq_some_iff.1 HXB.out).1 id).trans HXB.out)
 have HQ7 := Lib.hid (HQ6.out.later f7)
 have F7 := Lib.hid (F6.out.trans (f7.mono (fun _ _ h => h.elim)))
 have HNE := Lib.hid (HNE.out.later f7)
 have HNB := Lib.hid (show ∀ g o s, (na : Option Addr) = some ⟨g, o, s⟩ → (∃ o' s', ra = some ⟨g, o', s'⟩) ∨ (w5.heap.size ≤ g ∧ g < W7.heap.size) from fun g o s e => (HNB.out g o s e).imp id (fun h => ⟨h.1, Nat.lt_of_lt_of_le h.2 f7.size⟩))
 have HNr := Lib.hid (show SB + 1 + 1 < XB ∧ SB + 1 + 1 < NB from ⟨by have := HXs.out; omega, by have := HXs.out; omega⟩)
 rw [hW7]
 try rw [hNB]
 try rw [HxB.out]
 clear hW7 hNB f7
 have HY := Lib.hid (fun (W' : World) (hf : Fr0 (fun k => k = SB + 1 + 1) W7 W') => (show (W'.cell? ⟨NB, 0, none⟩ = some (.int .i64 n) ∧ W'.cell? ⟨NB, 1, none⟩ = some (.slice na nm nc)) ∧ EAt W' XB 0 X ∧ EAt W' (NB + 1) 0 X from by
  have hn := HNr.out
  have h1 := (hf.block XB (Array.getElem?_eq_some_iff.1 HXB.out).1 (fun e => by omega)).trans HXB.out
  have h2 := (hf.block (NB + 1) (Array.getElem?_eq_some_iff.1 HYb.out).1 (fun e => by omega)).trans HYb.out
  have h3 := (hf.block NB (Array.getElem?_eq_some_iff.1 HN.out).1 (fun e => by omega)).trans HN.out
  refine ⟨⟨by rw [cells_in h3]; rfl, by rw [cells_in h3]; rfl⟩, ⟨?_, ?_, ?_, ?_, ?_⟩, ⟨?_, ?_, ?_, ?_, ?_⟩⟩
  all_goals first | (rw [cells_in h1]; rfl) | (rw [cells_in h2]; rfl)))
 have hse : sameE ⟨⟨X.key.time, X.key.source, X.key.seq⟩, X.to, X.value⟩ ⟨⟨X.key.time, X.key.source, X.key.seq⟩, X.to, X.value⟩ = true := by unfold sameE; simp
 refine wp_region_held_drew (S := fun W' => Fr0 (fun k => k = SB + 1 + 1) W7 W') (by kernel_rfl) ((Fr0.refl _ W7).drew) (fun hHeld => ?_)
 refine tkn (i := 0) (v := .pointer (some ⟨qb, 0, none⟩)) (fun W' hSW => ?_) ?_
 ·obtain ⟨⟨n0, n1⟩, ⟨x0, x1, x2, x3, x4⟩, y0, y1, y2, y3, y4⟩ := HY.out W' hSW
  simp only [Nat.zero_add] at x1 x2 x3 x4 y1 y2 y3 y4
  first | (go_simp; done) | exact rfl | (go_simp; rfl) | (go_simp; omega)
 try simp only [pUt, pUn, sEt, sEz, sEs]
 refine tkn (i := 1) (v := .agg #[.int .i64 n, .slice na nm nc]) (fun W' hSW => ?_) ?_
 ·obtain ⟨⟨n0, n1⟩, ⟨x0, x1, x2, x3, x4⟩, y0, y1, y2, y3, y4⟩ := HY.out W' hSW
  simp only [Nat.zero_add] at x1 x2 x3 x4 y1 y2 y3 y4
  first | (go_simp; done) | exact rfl | (go_simp; rfl) | (go_simp; omega)
 try simp only [pUt, pUn, sEt, sEz, sEs]
 refine tkn (i := 2) (v := .agg #[.int .i64 X.key.time, .int .i64 X.key.source, .int .i64 X.key.seq, .int .i64 X.to, .int .i64 X.value]) (fun W' hSW => ?_) ?_
 ·obtain ⟨⟨n0, n1⟩, ⟨x0, x1, x2, x3, x4⟩, y0, y1, y2, y3, y4⟩ := HY.out W' hSW
  simp only [Nat.zero_add] at x1 x2 x3 x4 y1 y2 y3 y4
  first | (go_simp; done) | exact rfl | (go_simp; rfl) | (go_simp; omega)
 try simp only [pUt, pUn, sEt, sEz, sEs]
 refine tkn (i := 3) (v := .agg #[.int .i64 X.key.time, .int .i64 X.key.source, .int .i64 X.key.seq, .int .i64 X.to, .int .i64 X.value]) (fun W' hSW => ?_) ?_
 ·obtain ⟨⟨n0, n1⟩, ⟨x0, x1, x2, x3, x4⟩, y0, y1, y2, y3, y4⟩ := HY.out W' hSW
  simp only [Nat.zero_add] at x1 x2 x3 x4 y1 y2 y3 y4
  first | (go_simp; done) | exact rfl | (go_simp; rfl) | (go_simp; omega)
 try simp only [pUt, pUn, sEt, sEz, sEs]
 refine tkn (i := 4) (v := .bool true) (fun W' hSW => ?_) ?_
 ·obtain ⟨⟨n0, n1⟩, ⟨x0, x1, x2, x3, x4⟩, y0, y1, y2, y3, y4⟩ := HY.out W' hSW
  simp only [Nat.zero_add] at x1 x2 x3 x4 y1 y2 y3 y4
  first | (go_simp; done) | exact rfl | (go_simp; rfl) | (go_simp; omega)
 try simp only [pUt, pUn, sEt, sEz, sEs]
 refine tkn (i := 5) (v := .bool true) (fun W' hSW => ?_) ?_
 ·obtain ⟨⟨n0, n1⟩, ⟨x0, x1, x2, x3, x4⟩, y0, y1, y2, y3, y4⟩ := HY.out W' hSW
  simp only [Nat.zero_add] at x1 x2 x3 x4 y1 y2 y3 y4
  first | (go_simp; done) | exact rfl | (go_simp; rfl) | (go_simp; omega)
 try simp only [pUt, pUn, sEt, sEz, sEs]
 refine tkn (i := 6) (v := .int .i64 c) (fun W' hSW => ?_) ?_
 ·obtain ⟨⟨n0, n1⟩, ⟨x0, x1, x2, x3, x4⟩, y0, y1, y2, y3, y4⟩ := HY.out W' hSW
  simp only [Nat.zero_add] at x1 x2 x3 x4 y1 y2 y3 y4
  first | (go_simp; done) | exact rfl | (go_simp; rfl) | (go_simp; omega)
 try simp only [pUt, pUn, sEt, sEz, sEs]
 refine tkn (i := 7) (v := .int .i64 c) (fun W' hSW => ?_) ?_
 ·obtain ⟨⟨n0, n1⟩, ⟨x0, x1, x2, x3, x4⟩, y0, y1, y2, y3, y4⟩ := HY.out W' hSW
  simp only [Nat.zero_add] at x1 x2 x3 x4 y1 y2 y3 y4
  first | (go_simp; done) | exact rfl | (go_simp; rfl) | (go_simp; omega)
 try simp only [pUt, pUn, sEt, sEz, sEs]
 refine tkn (i := 8) (v := .bool true) (fun W' hSW => ?_) ?_
 ·obtain ⟨⟨n0, n1⟩, ⟨x0, x1, x2, x3, x4⟩, y0, y1, y2, y3, y4⟩ := HY.out W' hSW
  simp only [Nat.zero_add] at x1 x2 x3 x4 y1 y2 y3 y4
  first | (go_simp; done) | exact rfl | (go_simp; rfl) | (go_simp; omega)
 try simp only [pUt, pUn, sEt, sEz, sEs]
 refine tkn (i := 9) (v := .bool true) (fun W' hSW => ?_) ?_
 ·obtain ⟨⟨n0, n1⟩, ⟨x0, x1, x2, x3, x4⟩, y0, y1, y2, y3, y4⟩ := HY.out W' hSW
  simp only [Nat.zero_add] at x1 x2 x3 x4 y1 y2 y3 y4
  first | (go_simp; done) | exact rfl | (go_simp; rfl) | (go_simp; omega)
 try simp only [pUt, pUn, sEt, sEz, sEs]
 refine tkn (i := 10) (v := .pointer (some ⟨qb, 0, none⟩)) (fun W' hSW => ?_) ?_
 ·obtain ⟨⟨n0, n1⟩, ⟨x0, x1, x2, x3, x4⟩, y0, y1, y2, y3, y4⟩ := HY.out W' hSW
  simp only [Nat.zero_add] at x1 x2 x3 x4 y1 y2 y3 y4
  first | (go_simp; done) | exact rfl | (go_simp; rfl) | (go_simp; omega)
 try simp only [pUt, pUn, sEt, sEz, sEs]
 have t0 := thaw_in HRB.out 0
 have t1 := thaw_in HRB.out 1
 have u0 := cells_in HRB.out 0
 have u1 := cells_in HRB.out 1
 simp at u0 u1
 refine take_call (i := 11) rfl (by kernel_rfl) (by kernel_rfl) (fun K hK => ?_)
 go_simp
 obtain ⟨W9, hW9⟩ : ∃ W, ((W7).setCell ⟨SB + 1 + 1, 0, none⟩ (.int .i64 n)).setCell ⟨SB + 1 + 1, 1, none⟩ (.slice na nm nc) = W := ⟨_, rfl⟩
 have f9 : Fr0 (fun k => k = SB + 1 + 1) (W7) W9 := by rw [← hW9]; exact ((Fr0.refl (fun k => k = SB + 1 + 1) (W7)).setCell (fun _ => rfl) _).setCell (fun _ => rfl) _
 have hb9 : W9.heap[SB + 1 + 1]? = some (.cells #[.int .i64 n, .slice na nm nc] 50 (0, 0)) := by rw [← hW9]; exact heap_set_cell (heap_set_cell HRB.out _) _
 rw [hW9]
 refine hK.out _ _ f9.drew (fun hS => ?_)
 clear hK K hW9 t0 t1 u0 u1
 try simp only [pUt, pUn, sEt, sEz, sEs]
 refine tkn (i := 12) (v := .bool true) (fun W' hSW => ?_) ?_
 ·obtain ⟨⟨n0, n1⟩, ⟨x0, x1, x2, x3, x4⟩, y0, y1, y2, y3, y4⟩ := HY.out W' hSW
  simp only [Nat.zero_add] at x1 x2 x3 x4 y1 y2 y3 y4
  first | (go_simp; done) | exact rfl | (go_simp; rfl) | (go_simp; omega)
 try simp only [pUt, pUn, sEt, sEz, sEs]
 refine wpAnyH_done (by kernel_rfl) ?_ _
 obtain ⟨U9, hU⟩ : ∃ W, W9.drew = W := ⟨_, rfl⟩
 have hbU : U9.heap[SB + 1 + 1]? = some (.cells #[.int .i64 n, .slice na nm nc] 50 (0, 0)) := by rw [← hU]; exact hb9
 have f79 : Fr0 (fun k => k = SB + 1 + 1) W7 U9 := by rw [← hU]; exact f9.drew
 rw [hU]
 clear hb9 f9 hU hS hHeld
 have hb9 := hbU
 have r0 := cells_in hb9 0
 have r1 := cells_in hb9 1
 simp at r0 r1
 have HQ9 := Lib.hid (HQ7.out.fr0 f79 (fun k hk e => by
  subst e
  rcases hk with hk | hk
  ·have := Hft.out _ hk; omega
  ·have := hk.1; have := (Array.getElem?_eq_some_iff.1 HKv.out).1; omega))
 have F79 := Lib.hid f79
 clear f79 hbU HY
 go_wp2_with fail
 have hgr := HGR.out
 have hlt5 := HQ5.out.lt
 have hcr := HR.out.2.2
 have hcase : ∀ g o s, (na : Option Addr) = some ⟨g, o, s⟩ → g < (U9).heap.size ∧ g ≠ SB + 1 + 1 ∧ ¬ (qgrow ft V w5) g := fun g o s e => by
  have h2 := F79.out.size
  rcases HNB.out g o s e with ⟨o', s', e'⟩ | h1
  ·obtain ⟨h3, h4⟩ := hcr g o' s' e'
   have := HSB.out
   have := F7.out.size
   refine ⟨by omega, by omega, fun hk => ?_⟩
   rcases hgr g hk with h5 | h5
   ·exact h3 h5
   ·omega
  ·have := HKv5.out
   refine ⟨by omega, by omega, fun hk => ?_⟩
   have := hlt5 g hk
   omega
 refine bodyPost_ret (v := .tuple #[.pointer (some ⟨qb, 0, none⟩), .agg #[.int .i64 n, .slice na nm nc], .bool true]) (by simp [results, Tryz.results20, go_sem, r0, r1]) rfl ⟨qb, T, E', qgrow ft V w5, na, nc, by rw [Hnm.out], HQ9.out, by omega, hgr, ⟨HNE.out.fr0 F79.out (fun g o s e => (hcase g o s e).2.1), by rw [Hnm.out]; exact hnc, fun g o s e => ⟨(hcase g o s e).2.2, (hcase g o s e).1⟩⟩, F7.out.trans' F79.out (fun k hk e => by have := HSB.out; omega), fun g o s e => (HNB.out g o s e).imp id (fun h => by have := HSB.out; have := HKv5.out; omega)⟩
set_option maxRecDepth 100000 in
set_option maxHeartbeats 4000000 in
theorem do_6n {w : World} {qb n T m rc lk lc : Nat} {E : List Ev} {ft : Nat → Prop} {ra la : Option Addr} {kd t : Int} {x : Ev} (h : QIs w qb n T E ft) (hT : T ≤ 1000000) (hr : RsK w n E ra rc ft) (hm : E.length = m) (hkd : 0 ≤ kd ∧ kd < 256)
  (hk : kd % 10 = 6) (hx64 : I64 x.key.source ∧ I64 x.key.seq) (hm0 : m = 0) :
  Calls Tryz.prog 20 #[.pointer (some ⟨qb, 0, none⟩), .agg #[.int .i64 n, .slice ra m rc], actV kd x la lk lc t] w (DoPost n T w ft ra) := by
 have H := Lib.hid h
 have HR := Lib.hid hr
 have Hm := Lib.hid hm
 have hle := h.le
 have hmrc : m ≤ rc := by have := hr.2.1; rw [hm] at this; exact this
 have hm256 : m ≤ 256 := by omega
 have Hm0 := Lib.hid hm0
 clear hm0
 unfold actV
 clear h hr hle hm
 go_enter Tryz.func20, Tryz.ntmps20
 go_wp2_with fail
 have hkt : kd.tmod 10 = 6 := by rw [Int.tmod_eq_emod_of_nonneg hkd.1]; exact hk
 clear hk
 obtain ⟨SB, hSB⟩ : ∃ B, w.heap.size = B := ⟨_, rfl⟩
 obtain ⟨W1, hW1⟩ : ∃ W, w.alloc (.cells #[.int .i64 n, .slice ra m rc] 50) = W := ⟨_, rfl⟩
 have hs1 : W1.heap[SB]? = some (.cells #[.int .i64 n, .slice ra m rc] 50 (0, 0)) := by rw [← hW1, ← hSB]; exact World.alloc_heap_new w _
 have f1 : Fr0 none' w W1 := by rw [← hW1]; exact (Fr0.refl _ _).alloc _
 have z1 : W1.heap.size = SB + 1 := by rw [← hW1, World.size_alloc, hSB]
 rw [hW1]
 try rw [hSB]
 obtain ⟨W2, hW2⟩ : ∃ W, W1.alloc (.cells #[.int .u8 kd, .int .i64 x.key.time, .int .i64 x.key.source, .int .i64 x.key.seq, .int .i64 x.to, .int .i64 x.value, .slice la lk lc, .int .i64 t] 32) = W := ⟨_, rfl⟩
 have f2 : Fr0 none' W1 W2 := by rw [← hW2]; exact (Fr0.refl _ _).alloc _
 have hx2 : W2.heap[SB + 1]? = some (.cells #[.int .u8 kd, .int .i64 x.key.time, .int .i64 x.key.source, .int .i64 x.key.seq, .int .i64 x.to, .int .i64 x.value, .slice la lk lc, .int .i64 t] 32 (0, 0)) := by rw [← hW2, ← z1]; exact World.alloc_heap_new W1 _
 have z2 : W2.heap.size = SB + 1 + 1 := by rw [← hW2, World.size_alloc, z1]
 rw [hW2]
 obtain ⟨W3, hW3⟩ : ∃ W, W2.alloc (.cells #[.int .i64 0, .slice none 0 0] 50) = W := ⟨_, rfl⟩
 have f3 : Fr0 none' W2 W3 := by rw [← hW3]; exact (Fr0.refl _ _).alloc _
 have HRB := Lib.hid (show W3.heap[SB + 1 + 1]? = some (.cells #[.int .i64 0, .slice none 0 0] 50 (0, 0)) by rw [← hW3, ← z2]; exact World.alloc_heap_new W2 _)
 have HA := Lib.hid ((f3.block (SB + 1) (Array.getElem?_eq_some_iff.1 hx2).1 id).trans hx2)
 have HS := Lib.hid (((f2.trans f3).block SB (Array.getElem?_eq_some_iff.1 hs1).1 id).trans hs1)
 have HF := Lib.hid ((f1.trans f2).trans f3)
 have HSB := Lib.hid hSB
 have z3 : W3.heap.size = SB + 1 + 1 + 1 := by rw [← hW3, World.size_alloc, z2]
 have Hz3 := Lib.hid z3
 rw [hW3]
 clear hW1 hSB hs1 f1 hW2 f2 f3 hW3 z1 z2 hx2 z3
 have HZ := Lib.hid (fun (W' : World) (hf : Fr0 none' W3 W') => (show W'.cell? ⟨SB + 1, 0, none⟩ = some (.int .u8 kd) ∧ W'.cell? ⟨SB + 1, 1, none⟩ = some (.int .i64 x.key.time) ∧ W'.cell? ⟨SB + 1, 2, none⟩ = some (.int .i64 x.key.source) ∧ W'.cell? ⟨SB + 1, 3, none⟩ = some (.int .i64 x.key.seq) ∧ W'.cell? ⟨SB + 1, 4, none⟩ = some (.int .i64 x.to) ∧ W'.cell? ⟨SB + 1, 5, none⟩ = some (.int .i64 x.value) ∧ W'.cell? ⟨SB + 1, 6, none⟩ = some (.slice la lk lc) ∧ W'.cell? ⟨SB + 1, 7, none⟩ = some (.int .i64 t) from by
  have h1 := (hf.block (SB + 1) (Array.getElem?_eq_some_iff.1 HA.out).1 id).trans HA.out
  refine ⟨?_, ?_, ?_, ?_, ?_, ?_, ?_, ?_⟩ <;> (rw [cells_in h1]; rfl)))
 refine wp_region_held_drew (S := fun W' => Fr0 none' W3 W') (by kernel_rfl) ((Fr0.refl _ W3).drew) (fun hHeld => ?_)
 refine tkn (i := 0) (v := .pointer (some ⟨SB + 1, 0, none⟩)) (fun W' hSW => ?_) ?_
 ·obtain ⟨a0, a1, a2, a3, a4, a5, a6, a7⟩ := HZ.out W' hSW
  first | (go_simp; done) | exact rfl | (go_simp; rfl) | (go_simp; omega)
 try simp only [pUt, pUn, sEt, sEz, sEs]
 refine tkn (i := 1) (v := .int .u8 kd) (fun W' hSW => ?_) ?_
 ·obtain ⟨a0, a1, a2, a3, a4, a5, a6, a7⟩ := HZ.out W' hSW
  first | (go_simp; done) | exact rfl | (go_simp; rfl) | (go_simp; omega)
 try simp only [pUt, pUn, sEt, sEz, sEs]
 refine tkn (i := 2) (v := .int .u8 6) (fun W' hSW => ?_) ?_
 ·obtain ⟨a0, a1, a2, a3, a4, a5, a6, a7⟩ := HZ.out W' hSW
  first | (go_simp; done) | exact rfl | (go_simp; rfl) | (go_simp; omega)
 try simp only [pUt, pUn, sEt, sEz, sEs]
 refine tkn (i := 3) (v := .pointer (some ⟨SB + 1, 1, none⟩)) (fun W' hSW => ?_) ?_
 ·obtain ⟨a0, a1, a2, a3, a4, a5, a6, a7⟩ := HZ.out W' hSW
  first | (go_simp; done) | exact rfl | (go_simp; rfl) | (go_simp; omega)
 try simp only [pUt, pUn, sEt, sEz, sEs]
 refine tkn (i := 4) (v := .pointer (some ⟨SB + 1, 1, none⟩)) (fun W' hSW => ?_) ?_
 ·obtain ⟨a0, a1, a2, a3, a4, a5, a6, a7⟩ := HZ.out W' hSW
  first | (go_simp; done) | exact rfl | (go_simp; rfl) | (go_simp; omega)
 try simp only [pUt, pUn, sEt, sEz, sEs]
 refine tkn (i := 5) (v := .agg #[.int .i64 x.key.time, .int .i64 x.key.source, .int .i64 x.key.seq]) (fun W' hSW => ?_) ?_
 ·obtain ⟨a0, a1, a2, a3, a4, a5, a6, a7⟩ := HZ.out W' hSW
  first | (go_simp; done) | exact rfl | (go_simp; rfl) | (go_simp; omega)
 try simp only [pUt, pUn, sEt, sEz, sEs]
 refine take_call (i := 6) rfl (by kernel_rfl) (by kernel_rfl) (fun K hK => ?_)
 go_simp
 rw [Hz3.out]
 obtain ⟨V1, hV1⟩ : ∃ W, W3.alloc (.cells #[.int .i64 0, .int .i64 0, .int .i64 0] 26) = W := ⟨_, rfl⟩
 have fV : Fr0 none' W3 V1 := by rw [← hV1]; exact (Fr0.refl _ _).alloc _
 have hk1 : V1.heap[SB + 1 + 1 + 1]? = some (.cells #[.int .i64 0, .int .i64 0, .int .i64 0] 26 (0, 0)) := by rw [← hV1, ← Hz3.out]; exact World.alloc_heap_new W3 _
 rw [hV1]
 refine hK.out _ _ fV.drew (fun hS => ?_)
 clear hK K hV1 hHeld
 try simp only [pUt, pUn, sEt, sEz, sEs]
 refine tkn (i := 7) (v := .int .u8 6) (fun W' hSW => ?_) ?_
 ·obtain ⟨a0, a1, a2, a3, a4, a5, a6, a7⟩ := HZ.out W' hSW
  first | (go_simp; done) | exact rfl | (go_simp; rfl) | (go_simp; omega)
 try simp only [pUt, pUn, sEt, sEz, sEs]
 refine take_call (i := 8) rfl (by kernel_rfl) (by kernel_rfl) (fun K hK => ?_)
 have t0 := thaw_in hk1 0
 have t1 := thaw_in hk1 1
 have t2 := thaw_in hk1 2
 have u0 := cells_in hk1 0
 have u1 := cells_in hk1 1
 have u2 := cells_in hk1 2
 simp at u0 u1 u2
 go_simp
 obtain ⟨V2, hV2⟩ : ∃ W, ((V1.setCell ⟨SB + 1 + 1 + 1, 0, none⟩ (.int .i64 x.key.time)).setCell ⟨SB + 1 + 1 + 1, 1, none⟩ (.int .i64 x.key.source)).setCell ⟨SB + 1 + 1 + 1, 2, none⟩ (.int .i64 x.key.seq) = W := ⟨_, rfl⟩
 have hg3 : SB + 1 + 1 + 1 < W3.heap.size → none' (SB + 1 + 1 + 1) := fun e => by have := Hz3.out; omega
 have fV2 : Fr0 none' W3 V2 := by rw [← hV2]; exact ((fV.setCell hg3 _).setCell hg3 _).setCell hg3 _
 have hk2 : V2.heap[SB + 1 + 1 + 1]? = some (.cells #[.int .i64 x.key.time, .int .i64 x.key.source, .int .i64 x.key.seq] 26 (0, 0)) := by rw [← hV2]; exact heap_set_cell (heap_set_cell (heap_set_cell hk1 _) _) _
 rw [hV2]
 refine hK.out _ _ fV2.drew (fun hS => ?_)
 clear hK K hV2 t0 t1 t2 u0 u1 u2 hg3 fV hk1
 try simp only [pUt, pUn, sEt, sEz, sEs]
 refine wpAnyH_done (by kernel_rfl) ?_ _
 obtain ⟨V, hV⟩ : ∃ W, V2.drew = W := ⟨_, rfl⟩
 have fV : Fr0 none' W3 V := by rw [← hV]; exact fV2.drew
 have HK := Lib.hid (show V.heap[SB + 1 + 1 + 1]? = some (.cells #[.int .i64 x.key.time, .int .i64 x.key.source, .int .i64 x.key.seq] 26 (0, 0)) by rw [← hV]; exact hk2)
 have HRB := Lib.hid ((fV.block (SB + 1 + 1) (Array.getElem?_eq_some_iff.1 HRB.out).1 id).trans HRB.out)
 have HA := Lib.hid ((fV.block (SB + 1) (Array.getElem?_eq_some_iff.1 HA.out).1 id).trans HA.out)
 have HS := Lib.hid ((fV.block SB (Array.getElem?_eq_some_iff.1 HS.out).1 id).trans HS.out)
 have HF := Lib.hid (HF.out.trans fV)
 rw [hV]
 clear hV hk2 fV2 fV HZ Hz3 hS
 clear hkt
 have d6 : decide ((m : Int) > 0) = false := decide_eq_false (by have := Hm0.out; omega)
 have d7 : decide ((0 : Int) < (m : Int)) = false := decide_eq_false (by have := Hm0.out; omega)
 have d8 : decide (0 < m) = false := decide_eq_false (by have := Hm0.out; omega)
 have a0 := cells_in HA.out 0
 have a1 := cells_in HA.out 1
 have a2 := cells_in HA.out 2
 have a3 := cells_in HA.out 3
 have a4 := cells_in HA.out 4
 have a5 := cells_in HA.out 5
 have a6 := cells_in HA.out 6
 have a7 := cells_in HA.out 7
 have s0 := cells_in HS.out 0
 have s1 := cells_in HS.out 1
 have k0 := cells_in HK.out 0
 have k1 := cells_in HK.out 1
 have k2 := cells_in HK.out 2
 simp at a0 a1 a2 a3 a4 a5 a6 a7 s0 s1 k0 k1 k2
 go_wp2_with fail
 have HKv := HK
 have Hft := Lib.hid (show ∀ k, ft k → k < SB from fun k hk => by have := H.out.lt k hk; have := HSB.out; omega)
 have HP := (H.out.later HF.out).cancel (nm := x.name) hx64.1 hx64.2 (by omega)
 obtain ⟨X, hX⟩ : ∃ X, (findE x.name E).getD zeroEv = X := ⟨_, rfl⟩
 obtain ⟨c, hc⟩ : ∃ c : Int, (if (findE x.name E).isSome then 0 else 6) = c := ⟨_, rfl⟩
 obtain ⟨E', hE'⟩ : ∃ E', delE x.name E = E' := ⟨_, rfl⟩
 rw [hX, hc, hE'] at HP
 have HX := Lib.hid hX
 have Hc := Lib.hid hc
 have HE' := Lib.hid hE'
 unfold evV at HP
 refine HP.mono ?_
 rintro e w5 ⟨rfl, hq5, hf5⟩
 have HQ5 := Lib.hid hq5
 clear a0 a1 a2 a3 a4 a5 a6 a7 s0 s1 k0 k1 k2
 have HK := Lib.hid ((hf5.block (SB + 1 + 1 + 1) (Array.getElem?_eq_some_iff.1 HK.out).1 (fun h => by have := Hft.out _ h; omega)).trans HK.out)
 have HRB := Lib.hid ((hf5.block (SB + 1 + 1) (Array.getElem?_eq_some_iff.1 HRB.out).1 (fun h => by have := Hft.out _ h; omega)).trans HRB.out)
 have HA := Lib.hid ((hf5.block (SB + 1) (Array.getElem?_eq_some_iff.1 HA.out).1 (fun h => by have := Hft.out _ h; omega)).trans HA.out)
 have HS := Lib.hid ((hf5.block SB (Array.getElem?_eq_some_iff.1 HS.out).1 (fun h => by have := Hft.out _ h; omega)).trans HS.out)
 have F5 := Lib.hid (show Fr0 ft w w5 from (HF.out.mono (fun _ _ h => h.elim)).trans hf5)
 have HGR := Lib.hid (show ∀ k, qgrow ft V w5 k → ft k ∨ w.heap.size ≤ k from fun k hk => hk.imp id (fun h => Nat.le_trans HF.out.size h.1))
 have HKv5 := Lib.hid (show SB + 1 + 1 + 1 < w5.heap.size from (Array.getElem?_eq_some_iff.1 HK.out).1)
 have HRE := Lib.hid (HR.out.1.fr0 F5.out (fun g o s e => (HR.out.2.2 g o s e).1))
 have hX5 := hX
 have hC5 : (if (findE x.name E).isSome then (0 : Int) else 6) = c := by rw [← hc] <;> skip
 have hE5 := hE'
 clear HP hq5 hf5 hc hE' hX
 obtain ⟨XB, hXB⟩ : ∃ b, w5.heap.size = b := ⟨_, rfl⟩
 obtain ⟨V5, hV5⟩ : ∃ W, w5.alloc (.cells #[.int .i64 X.key.time, .int .i64 X.key.source, .int .i64 X.key.seq, .int .i64 X.to, .int .i64 X.value] 28) = W := ⟨_, rfl⟩
 have hf : Fr0 none' w5 V5 := by rw [← hV5]; exact (Fr0.refl _ _).alloc _
 have HXB := Lib.hid (show V5.heap[XB]? = some (.cells (cev X).toArray 28 (0, 0)) by rw [← hV5, ← hXB]; exact World.alloc_heap_new _ _)
 have HK := Lib.hid ((hf.block (SB + 1 + 1 + 1) (Array.getElem?_eq_some_iff.1 HK.out).1 id).trans HK.out)
 have HRB := Lib.hid ((hf.block (SB + 1 + 1) (Array.getElem?_eq_some_iff.1 HRB.out).1 id).trans HRB.out)
 have HA := Lib.hid ((hf.block (SB + 1) (Array.getElem?_eq_some_iff.1 HA.out).1 id).trans HA.out)
 have HS := Lib.hid ((hf.block SB (Array.getElem?_eq_some_iff.1 HS.out).1 id).trans HS.out)
 have HQ6 := Lib.hid (HQ5.out.later hf)
 have F6 := Lib.hid (F5.out.trans (hf.mono (fun _ _ h => h.elim)))
 have HRE6 := Lib.hid (HRE.out.later hf)
 have hsz := Lib.hid (show w5.heap.size ≤ V5.heap.size from hf.size)
 have HxB := Lib.hid hXB
 clear hf hXB
 have a0 := cells_in HA.out 0
 have a1 := cells_in HA.out 1
 have a2 := cells_in HA.out 2
 have a3 := cells_in HA.out 3
 have a4 := cells_in HA.out 4
 have a5 := cells_in HA.out 5
 have a6 := cells_in HA.out 6
 have a7 := cells_in HA.out 7
 have s0 := cells_in HS.out 0
 have s1 := cells_in HS.out 1
 have k0 := cells_in HK.out 0
 have k1 := cells_in HK.out 1
 have k2 := cells_in HK.out 2
 simp at a0 a1 a2 a3 a4 a5 a6 a7 s0 s1 k0 k1 k2
 subst hV5
 go_wp2_with fail
 have hPr := rCancel_any (n : Int) E HRE6.out Hm.out (by omega) hmrc H.out.good.2.1 x.name
 rw [hX5, hC5, hE5] at hPr
 unfold evV at hPr
 refine hPr.mono ?_
 rintro e w6 ⟨na, nm, nc, rfl, hA, hf⟩
 obtain ⟨b', c', hv, hnc, hne, hnb⟩ := hA
 simp only [Value.agg.injEq, Array.mk.injEq, List.cons.injEq, Value.slice.injEq, and_true, true_and] at hv
 obtain ⟨rfl, hnm, rfl⟩ := hv
 rw [← hnm] at hnc
 have Hnm := Lib.hid hnm.symm
 have HNE := Lib.hid hne
 have HNB := Lib.hid (show ∀ g o s, (na : Option Addr) = some ⟨g, o, s⟩ → (∃ o' s', ra = some ⟨g, o', s'⟩) ∨ (w5.heap.size ≤ g ∧ g < w6.heap.size) from fun g o s e => (hnb g o s e).imp id (fun h => ⟨Nat.le_trans hsz.out h.1, h.2⟩))
 clear a0 a1 a2 a3 a4 a5 a6 a7 s0 s1 k0 k1 k2
 have HK := Lib.hid ((hf.block (SB + 1 + 1 + 1) (Array.getElem?_eq_some_iff.1 HK.out).1 id).trans HK.out)
 have HRB := Lib.hid ((hf.block (SB + 1 + 1) (Array.getElem?_eq_some_iff.1 HRB.out).1 id).trans HRB.out)
 have HA := Lib.hid ((hf.block (SB + 1) (Array.getElem?_eq_some_iff.1 HA.out).1 id).trans HA.out)
 have HS := Lib.hid ((hf.block SB (Array.getElem?_eq_some_iff.1 HS.out).1 id).trans HS.out)
 have HXB := Lib.hid ((hf.block XB (Array.getElem?_eq_some_iff.1 HXB.out).1 id).trans HXB.out)
 have HXs := Lib.hid (show XB < w6.heap.size ∧ SB + 1 + 1 + 1 < XB from ⟨(Array.getElem?_eq_some_iff.1 HXB.out).1, by have := HxB.out; have := HKv5.out; omega⟩)
 have HQ6 := Lib.hid (HQ6.out.later hf)
 have F6 := Lib.hid (F6.out.trans (hf.mono (fun _ _ h => h.elim)))
 clear hPr hf hnm hne hnb hX5 hC5 hE5
 go_wp2_with fail
 obtain ⟨NB, hNB⟩ : ∃ B, w6.heap.size = B := ⟨_, rfl⟩
 obtain ⟨W7, hW7⟩ : ∃ W, (w6.alloc (.cells #[.int .i64 n, .slice na nm nc] 50)).alloc (.cells #[.int .i64 X.key.time, .int .i64 X.key.source, .int .i64 X.key.seq, .int .i64 X.to, .int .i64 X.value] 28) = W := ⟨_, rfl⟩
 have f7 : Fr0 none' w6 W7 := by rw [← hW7]; exact ((Fr0.refl _ _).alloc _).alloc _
 have HN := Lib.hid (show W7.heap[NB]? = some (.cells #[.int .i64 n, .slice na nm nc] 50 (0, 0)) by
  rw [← hW7, ← hNB]
  exact (((Fr0.refl none' (w6.alloc (.cells #[.int .i64 n, .slice na nm nc] 50))).alloc _).block w6.heap.size (by rw [World.size_alloc]; omega) id).trans (World.alloc_heap_new w6 _))
 have HYb := Lib.hid (show W7.heap[NB + 1]? = some (.cells (cev X).toArray 28 (0, 0)) by
  have h7 := World.alloc_heap_new (w6.alloc (.cells #[.int .i64 n, .slice na nm nc] 50)) (.cells #[.int .i64 X.key.time, .int .i64 X.key.source, .int .i64 X.key.seq, .int .i64 X.to, .int .i64 X.value] 28)
  rw [World.size_alloc, hNB] at h7
  rw [← hW7]
  exact h7)
 have HK := Lib.hid ((f7.block (SB + 1 + 1 + 1) (Array.getElem?_eq_some_iff.1 HK.out).1 id).trans HK.out)
 have HRB := Lib.hid ((f7.block (SB + 1 + 1) (Array.getElem?_eq_some_iff.1 HRB.out).1 id).trans HRB.out)
 have HA := Lib.hid ((f7.block (SB + 1) (Array.getElem?_eq_some_iff.1 HA.out).1 id).trans HA.out)
 have HS := Lib.hid ((f7.block SB (Array.getElem?_eq_some_iff.1 HS.out).1 id).trans HS.out)
 have HXB := Lib.hid ((f7.block XB (Array.getElem?_eq_some_iff.1 HXB.out).1 id).trans HXB.out)
 have HQ7 := Lib.hid (HQ6.out.later f7)
 have F7 := Lib.hid (F6.out.trans (f7.mono (fun _ _ h => h.elim)))
 have HNE := Lib.hid (HNE.out.later f7)
 have HNB := Lib.hid (show ∀ g o s, (na : Option Addr) = some ⟨g, o, s⟩ → (∃ o' s', ra = some ⟨g, o', s'⟩) ∨ (w5.heap.size ≤ g ∧ g < W7.heap.size) from fun g o s e => (HNB.out g o s e).imp id (fun h => ⟨h.1, Nat.lt_of_lt_of_le h.2 f7.size⟩))
 have HNr := Lib.hid (show SB + 1 + 1 < XB ∧ SB + 1 + 1 < NB from ⟨by have := HXs.out; omega, by have := HXs.out; omega⟩)
 rw [hW7]
 try rw [hNB]
 try rw [HxB.out]
 clear hW7 hNB f7
 have HY := Lib.hid (fun (W' : World) (hf : Fr0 (fun k => k = SB + 1 + 1) W7 W') => (show (W'.cell? ⟨NB, 0, none⟩ = some (.int .i64 n) ∧ W'.cell? ⟨NB, 1, none⟩ = some (.slice na nm nc)) ∧ EAt W' XB 0 X ∧ EAt W' (NB + 1) 0 X from by
  have hn := HNr.out
  have h1 := (hf.block XB (Array.getElem?_eq_some_iff.1 HXB.out).1 (fun e => by omega)).trans HXB.out
  have h2 := (hf.block (NB + 1) (Array.getElem?_eq_some_iff.1 HYb.out).1 (fun e => by omega)).trans HYb.out
  have h3 := (hf.block NB (Array.getElem?_eq_some_iff.1 HN.out).1 (fun e => by omega)).trans HN.out
  refine ⟨⟨by rw [cells_in h3]; rfl, by rw [cells_in h3]; rfl⟩, ⟨?_, ?_, ?_, ?_, ?_⟩, ⟨?_, ?_, ?_, ?_, ?_⟩⟩
  all_goals first | (rw [cells_in h1]; rfl) | (rw [cells_in h2]; rfl)))
 have hse : sameE ⟨⟨X.key.time, X.key.source, X.key.seq⟩, X.to, X.value⟩ ⟨⟨X.key.time, X.key.source, X.key.seq⟩, X.to, X.value⟩ = true := by unfold sameE; simp
 refine wp_region_held_drew (S := fun W' => Fr0 (fun k => k = SB + 1 + 1) W7 W') (by kernel_rfl) ((Fr0.refl _ W7).drew) (fun hHeld => ?_)
 refine tkn (i := 0) (v := .pointer (some ⟨qb, 0, none⟩)) (fun W' hSW => ?_) ?_
 ·obtain ⟨⟨n0, n1⟩, ⟨x0, x1, x2, x3, x4⟩, y0, y1, y2, y3, y4⟩ := HY.out W' hSW
  simp only [Nat.zero_add] at x1 x2 x3 x4 y1 y2 y3 y4
  first | (go_simp; done) | exact rfl | (go_simp; rfl) | (go_simp; omega)
 try simp only [pUt, pUn, sEt, sEz, sEs]
 refine tkn (i := 1) (v := .agg #[.int .i64 n, .slice na nm nc]) (fun W' hSW => ?_) ?_
 ·obtain ⟨⟨n0, n1⟩, ⟨x0, x1, x2, x3, x4⟩, y0, y1, y2, y3, y4⟩ := HY.out W' hSW
  simp only [Nat.zero_add] at x1 x2 x3 x4 y1 y2 y3 y4
  first | (go_simp; done) | exact rfl | (go_simp; rfl) | (go_simp; omega)
 try simp only [pUt, pUn, sEt, sEz, sEs]
 refine tkn (i := 2) (v := .agg #[.int .i64 X.key.time, .int .i64 X.key.source, .int .i64 X.key.seq, .int .i64 X.to, .int .i64 X.value]) (fun W' hSW => ?_) ?_
 ·obtain ⟨⟨n0, n1⟩, ⟨x0, x1, x2, x3, x4⟩, y0, y1, y2, y3, y4⟩ := HY.out W' hSW
  simp only [Nat.zero_add] at x1 x2 x3 x4 y1 y2 y3 y4
  first | (go_simp; done) | exact rfl | (go_simp; rfl) | (go_simp; omega)
 try simp only [pUt, pUn, sEt, sEz, sEs]
 refine tkn (i := 3) (v := .agg #[.int .i64 X.key.time, .int .i64 X.key.source, .int .i64 X.key.seq, .int .i64 X.to, .int .i64 X.value]) (fun W' hSW => ?_) ?_
 ·obtain ⟨⟨n0, n1⟩, ⟨x0, x1, x2, x3, x4⟩, y0, y1, y2, y3, y4⟩ := HY.out W' hSW
  simp only [Nat.zero_add] at x1 x2 x3 x4 y1 y2 y3 y4
  first | (go_simp; done) | exact rfl | (go_simp; rfl) | (go_simp; omega)
 try simp only [pUt, pUn, sEt, sEz, sEs]
 refine tkn (i := 4) (v := .bool true) (fun W' hSW => ?_) ?_
 ·obtain ⟨⟨n0, n1⟩, ⟨x0, x1, x2, x3, x4⟩, y0, y1, y2, y3, y4⟩ := HY.out W' hSW
  simp only [Nat.zero_add] at x1 x2 x3 x4 y1 y2 y3 y4
  first | (go_simp; done) | exact rfl | (go_simp; rfl) | (go_simp; omega)
 try simp only [pUt, pUn, sEt, sEz, sEs]
 refine tkn (i := 5) (v := .bool true) (fun W' hSW => ?_) ?_
 ·obtain ⟨⟨n0, n1⟩, ⟨x0, x1, x2, x3, x4⟩, y0, y1, y2, y3, y4⟩ := HY.out W' hSW
  simp only [Nat.zero_add] at x1 x2 x3 x4 y1 y2 y3 y4
  first | (go_simp; done) | exact rfl | (go_simp; rfl) | (go_simp; omega)
 try simp only [pUt, pUn, sEt, sEz, sEs]
 refine tkn (i := 6) (v := .int .i64 c) (fun W' hSW => ?_) ?_
 ·obtain ⟨⟨n0, n1⟩, ⟨x0, x1, x2, x3, x4⟩, y0, y1, y2, y3, y4⟩ := HY.out W' hSW
  simp only [Nat.zero_add] at x1 x2 x3 x4 y1 y2 y3 y4
  first | (go_simp; done) | exact rfl | (go_simp; rfl) | (go_simp; omega)
 try simp only [pUt, pUn, sEt, sEz, sEs]
 refine tkn (i := 7) (v := .int .i64 c) (fun W' hSW => ?_) ?_
 ·obtain ⟨⟨n0, n1⟩, ⟨x0, x1, x2, x3, x4⟩, y0, y1, y2, y3, y4⟩ := HY.out W' hSW
  simp only [Nat.zero_add] at x1 x2 x3 x4 y1 y2 y3 y4
  first | (go_simp; done) | exact rfl | (go_simp; rfl) | (go_simp; omega)
 try simp only [pUt, pUn, sEt, sEz, sEs]
 refine tkn (i := 8) (v := .bool true) (fun W' hSW => ?_) ?_
 ·obtain ⟨⟨n0, n1⟩, ⟨x0, x1, x2, x3, x4⟩, y0, y1, y2, y3, y4⟩ := HY.out W' hSW
  simp only [Nat.zero_add] at x1 x2 x3 x4 y1 y2 y3 y4
  first | (go_simp; done) | exact rfl | (go_simp; rfl) | (go_simp; omega)
 try simp only [pUt, pUn, sEt, sEz, sEs]
 refine tkn (i := 9) (v := .bool true) (fun W' hSW => ?_) ?_
 ·obtain ⟨⟨n0, n1⟩, ⟨x0, x1, x2, x3, x4⟩, y0, y1, y2, y3, y4⟩ := HY.out W' hSW
  simp only [Nat.zero_add] at x1 x2 x3 x4 y1 y2 y3 y4
  first | (go_simp; done) | exact rfl | (go_simp; rfl) | (go_simp; omega)
 try simp only [pUt, pUn, sEt, sEz, sEs]
 refine tkn (i := 10) (v := .pointer (some ⟨qb, 0, none⟩)) (fun W' hSW => ?_) ?_
 ·obtain ⟨⟨n0, n1⟩, ⟨x0, x1, x2, x3, x4⟩, y0, y1, y2, y3, y4⟩ := HY.out W' hSW
  simp only [Nat.zero_add] at x1 x2 x3 x4 y1 y2 y3 y4
  first | (go_simp; done) | exact rfl | (go_simp; rfl) | (go_simp; omega)
 try simp only [pUt, pUn, sEt, sEz, sEs]
 have t0 := thaw_in HRB.out 0
 have t1 := thaw_in HRB.out 1
 have u0 := cells_in HRB.out 0
 have u1 := cells_in HRB.out 1
 simp at u0 u1
 refine take_call (i := 11) rfl (by kernel_rfl) (by kernel_rfl) (fun K hK => ?_)
 go_simp
 obtain ⟨W9, hW9⟩ : ∃ W, ((W7).setCell ⟨SB + 1 + 1, 0, none⟩ (.int .i64 n)).setCell ⟨SB + 1 + 1, 1, none⟩ (.slice na nm nc) = W := ⟨_, rfl⟩
 have f9 : Fr0 (fun k => k = SB + 1 + 1) (W7) W9 := by rw [← hW9]; exact ((Fr0.refl (fun k => k = SB + 1 + 1) (W7)).setCell (fun _ => rfl) _).setCell (fun _ => rfl) _
 have hb9 : W9.heap[SB + 1 + 1]? = some (.cells #[.int .i64 n, .slice na nm nc] 50 (0, 0)) := by rw [← hW9]; exact heap_set_cell (heap_set_cell HRB.out _) _
 rw [hW9]
 refine hK.out _ _ f9.drew (fun hS => ?_)
 clear hK K hW9 t0 t1 u0 u1
 try simp only [pUt, pUn, sEt, sEz, sEs]
 refine tkn (i := 12) (v := .bool true) (fun W' hSW => ?_) ?_
 ·obtain ⟨⟨n0, n1⟩, ⟨x0, x1, x2, x3, x4⟩, y0, y1, y2, y3, y4⟩ := HY.out W' hSW
  simp only [Nat.zero_add] at x1 x2 x3 x4 y1 y2 y3 y4
  first | (go_simp; done) | exact rfl | (go_simp; rfl) | (go_simp; omega)
 try simp only [pUt, pUn, sEt, sEz, sEs]
 refine wpAnyH_done (by kernel_rfl) ?_ _
 obtain ⟨U9, hU⟩ : ∃ W, W9.drew = W := ⟨_, rfl⟩
 have hbU : U9.heap[SB + 1 + 1]? = some (.cells #[.int .i64 n, .slice na nm nc] 50 (0, 0)) := by rw [← hU]; exact hb9
 have f79 : Fr0 (fun k => k = SB + 1 + 1) W7 U9 := by rw [← hU]; exact f9.drew
 rw [hU]
 clear hb9 f9 hU hS hHeld
 have hb9 := hbU
 have r0 := cells_in hb9 0
 have r1 := cells_in hb9 1
 simp at r0 r1
 have HQ9 := Lib.hid (HQ7.out.fr0 f79 (fun k hk e => by
  subst e
  rcases hk with hk | hk
  ·have := Hft.out _ hk; omega
  ·have := hk.1; have := (Array.getElem?_eq_some_iff.1 HKv.out).1; omega))
 have F79 := Lib.hid f79
 clear f79 hbU HY
 go_wp2_with fail
 have hgr := HGR.out
 have hlt5 := HQ5.out.lt
 have hcr := HR.out.2.2
 have hcase : ∀ g o s, (na : Option Addr) = some ⟨g, o, s⟩ → g < (U9).heap.size ∧ g ≠ SB + 1 + 1 ∧ ¬ (qgrow ft V w5) g := fun g o s e => by
  have h2 := F79.out.size
  rcases HNB.out g o s e with ⟨o', s', e'⟩ | h1
  ·obtain ⟨h3, h4⟩ := hcr g o' s' e'
   have := HSB.out
   have := F7.out.size
   refine ⟨by omega, by omega, fun hk => ?_⟩
   rcases hgr g hk with h5 | h5
   ·exact h3 h5
   ·omega
  ·have := HKv5.out
   refine ⟨by omega, by omega, fun hk => ?_⟩
   have := hlt5 g hk
   omega
 refine bodyPost_ret (v := .tuple #[.pointer (some ⟨qb, 0, none⟩), .agg #[.int .i64 n, .slice na nm nc], .bool true]) (by simp [results, Tryz.results20, go_sem, r0, r1]) rfl ⟨qb, T, E', qgrow ft V w5, na, nc, by rw [Hnm.out], HQ9.out, by omega, hgr, ⟨HNE.out.fr0 F79.out (fun g o s e => (hcase g o s e).2.1), by rw [Hnm.out]; exact hnc, fun g o s e => ⟨(hcase g o s e).2.2, (hcase g o s e).1⟩⟩, F7.out.trans' F79.out (fun k hk e => by have := HSB.out; omega), fun g o s e => (HNB.out g o s e).imp id (fun h => by have := HSB.out; have := HKv5.out; omega)⟩
set_option maxRecDepth 100000 in
set_option maxHeartbeats 4000000 in
theorem do_6 {w : World} {qb n T m rc lk lc : Nat} {E : List Ev} {ft : Nat → Prop} {ra la : Option Addr} {kd t : Int} {x : Ev} (h : QIs w qb n T E ft) (hT : T ≤ 1000000) (hr : RsK w n E ra rc ft) (hm : E.length = m) (hkd : 0 ≤ kd ∧ kd < 256)
  (hk : kd % 10 = 6) (ht : I64 t) (hm0 : 0 < m) :
  Calls Tryz.prog 20 #[.pointer (some ⟨qb, 0, none⟩), .agg #[.int .i64 n, .slice ra m rc], actV kd x la lk lc t] w (DoPost n T w ft ra) := by
 have H := Lib.hid h
 have HR := Lib.hid hr
 have Hm := Lib.hid hm
 have hle := h.le
 have hmrc : m ≤ rc := by have := hr.2.1; rw [hm] at this; exact this
 have hm256 : m ≤ 256 := by omega
 unfold actV
 clear h hr hle hm
 go_enter Tryz.func20, Tryz.ntmps20
 go_wp2_with fail
 have hkt : kd.tmod 10 = 6 := by rw [Int.tmod_eq_emod_of_nonneg hkd.1]; exact hk
 clear hk
 obtain ⟨SB, hSB⟩ : ∃ B, w.heap.size = B := ⟨_, rfl⟩
 obtain ⟨W1, hW1⟩ : ∃ W, w.alloc (.cells #[.int .i64 n, .slice ra m rc] 50) = W := ⟨_, rfl⟩
 have hs1 : W1.heap[SB]? = some (.cells #[.int .i64 n, .slice ra m rc] 50 (0, 0)) := by rw [← hW1, ← hSB]; exact World.alloc_heap_new w _
 have f1 : Fr0 none' w W1 := by rw [← hW1]; exact (Fr0.refl _ _).alloc _
 have z1 : W1.heap.size = SB + 1 := by rw [← hW1, World.size_alloc, hSB]
 rw [hW1]
 try rw [hSB]
 obtain ⟨W2, hW2⟩ : ∃ W, W1.alloc (.cells #[.int .u8 kd, .int .i64 x.key.time, .int .i64 x.key.source, .int .i64 x.key.seq, .int .i64 x.to, .int .i64 x.value, .slice la lk lc, .int .i64 t] 32) = W := ⟨_, rfl⟩
 have f2 : Fr0 none' W1 W2 := by rw [← hW2]; exact (Fr0.refl _ _).alloc _
 have hx2 : W2.heap[SB + 1]? = some (.cells #[.int .u8 kd, .int .i64 x.key.time, .int .i64 x.key.source, .int .i64 x.key.seq, .int .i64 x.to, .int .i64 x.value, .slice la lk lc, .int .i64 t] 32 (0, 0)) := by rw [← hW2, ← z1]; exact World.alloc_heap_new W1 _
 have z2 : W2.heap.size = SB + 1 + 1 := by rw [← hW2, World.size_alloc, z1]
 rw [hW2]
 obtain ⟨W3, hW3⟩ : ∃ W, W2.alloc (.cells #[.int .i64 0, .slice none 0 0] 50) = W := ⟨_, rfl⟩
 have f3 : Fr0 none' W2 W3 := by rw [← hW3]; exact (Fr0.refl _ _).alloc _
 have HRB := Lib.hid (show W3.heap[SB + 1 + 1]? = some (.cells #[.int .i64 0, .slice none 0 0] 50 (0, 0)) by rw [← hW3, ← z2]; exact World.alloc_heap_new W2 _)
 have HA := Lib.hid ((f3.block (SB + 1) (Array.getElem?_eq_some_iff.1 hx2).1 id).trans hx2)
 have HS := Lib.hid (((f2.trans f3).block SB (Array.getElem?_eq_some_iff.1 hs1).1 id).trans hs1)
 have HF := Lib.hid ((f1.trans f2).trans f3)
 have HSB := Lib.hid hSB
 have z3 : W3.heap.size = SB + 1 + 1 + 1 := by rw [← hW3, World.size_alloc, z2]
 have Hz3 := Lib.hid z3
 rw [hW3]
 clear hW1 hSB hs1 f1 hW2 f2 f3 hW3 z1 z2 hx2 z3
 have HZ := Lib.hid (fun (W' : World) (hf : Fr0 none' W3 W') => (show W'.cell? ⟨SB + 1, 0, none⟩ = some (.int .u8 kd) ∧ W'.cell? ⟨SB + 1, 1, none⟩ = some (.int .i64 x.key.time) ∧ W'.cell? ⟨SB + 1, 2, none⟩ = some (.int .i64 x.key.source) ∧ W'.cell? ⟨SB + 1, 3, none⟩ = some (.int .i64 x.key.seq) ∧ W'.cell? ⟨SB + 1, 4, none⟩ = some (.int .i64 x.to) ∧ W'.cell? ⟨SB + 1, 5, none⟩ = some (.int .i64 x.value) ∧ W'.cell? ⟨SB + 1, 6, none⟩ = some (.slice la lk lc) ∧ W'.cell? ⟨SB + 1, 7, none⟩ = some (.int .i64 t) from by
  have h1 := (hf.block (SB + 1) (Array.getElem?_eq_some_iff.1 HA.out).1 id).trans HA.out
  refine ⟨?_, ?_, ?_, ?_, ?_, ?_, ?_, ?_⟩ <;> (rw [cells_in h1]; rfl)))
 refine wp_region_held_drew (S := fun W' => Fr0 none' W3 W') (by kernel_rfl) ((Fr0.refl _ W3).drew) (fun hHeld => ?_)
 refine tkn (i := 0) (v := .pointer (some ⟨SB + 1, 0, none⟩)) (fun W' hSW => ?_) ?_
 ·obtain ⟨a0, a1, a2, a3, a4, a5, a6, a7⟩ := HZ.out W' hSW
  first | (go_simp; done) | exact rfl | (go_simp; rfl) | (go_simp; omega)
 try simp only [pUt, pUn, sEt, sEz, sEs]
 refine tkn (i := 1) (v := .int .u8 kd) (fun W' hSW => ?_) ?_
 ·obtain ⟨a0, a1, a2, a3, a4, a5, a6, a7⟩ := HZ.out W' hSW
  first | (go_simp; done) | exact rfl | (go_simp; rfl) | (go_simp; omega)
 try simp only [pUt, pUn, sEt, sEz, sEs]
 refine tkn (i := 2) (v := .int .u8 6) (fun W' hSW => ?_) ?_
 ·obtain ⟨a0, a1, a2, a3, a4, a5, a6, a7⟩ := HZ.out W' hSW
  first | (go_simp; done) | exact rfl | (go_simp; rfl) | (go_simp; omega)
 try simp only [pUt, pUn, sEt, sEz, sEs]
 refine tkn (i := 3) (v := .pointer (some ⟨SB + 1, 1, none⟩)) (fun W' hSW => ?_) ?_
 ·obtain ⟨a0, a1, a2, a3, a4, a5, a6, a7⟩ := HZ.out W' hSW
  first | (go_simp; done) | exact rfl | (go_simp; rfl) | (go_simp; omega)
 try simp only [pUt, pUn, sEt, sEz, sEs]
 refine tkn (i := 4) (v := .pointer (some ⟨SB + 1, 1, none⟩)) (fun W' hSW => ?_) ?_
 ·obtain ⟨a0, a1, a2, a3, a4, a5, a6, a7⟩ := HZ.out W' hSW
  first | (go_simp; done) | exact rfl | (go_simp; rfl) | (go_simp; omega)
 try simp only [pUt, pUn, sEt, sEz, sEs]
 refine tkn (i := 5) (v := .agg #[.int .i64 x.key.time, .int .i64 x.key.source, .int .i64 x.key.seq]) (fun W' hSW => ?_) ?_
 ·obtain ⟨a0, a1, a2, a3, a4, a5, a6, a7⟩ := HZ.out W' hSW
  first | (go_simp; done) | exact rfl | (go_simp; rfl) | (go_simp; omega)
 try simp only [pUt, pUn, sEt, sEz, sEs]
 refine take_call (i := 6) rfl (by kernel_rfl) (by kernel_rfl) (fun K hK => ?_)
 go_simp
 rw [Hz3.out]
 obtain ⟨V1, hV1⟩ : ∃ W, W3.alloc (.cells #[.int .i64 0, .int .i64 0, .int .i64 0] 26) = W := ⟨_, rfl⟩
 have fV : Fr0 none' W3 V1 := by rw [← hV1]; exact (Fr0.refl _ _).alloc _
 have hk1 : V1.heap[SB + 1 + 1 + 1]? = some (.cells #[.int .i64 0, .int .i64 0, .int .i64 0] 26 (0, 0)) := by rw [← hV1, ← Hz3.out]; exact World.alloc_heap_new W3 _
 rw [hV1]
 refine hK.out _ _ fV.drew (fun hS => ?_)
 clear hK K hV1 hHeld
 try simp only [pUt, pUn, sEt, sEz, sEs]
 refine tkn (i := 7) (v := .int .u8 6) (fun W' hSW => ?_) ?_
 ·obtain ⟨a0, a1, a2, a3, a4, a5, a6, a7⟩ := HZ.out W' hSW
  first | (go_simp; done) | exact rfl | (go_simp; rfl) | (go_simp; omega)
 try simp only [pUt, pUn, sEt, sEz, sEs]
 refine take_call (i := 8) rfl (by kernel_rfl) (by kernel_rfl) (fun K hK => ?_)
 have t0 := thaw_in hk1 0
 have t1 := thaw_in hk1 1
 have t2 := thaw_in hk1 2
 have u0 := cells_in hk1 0
 have u1 := cells_in hk1 1
 have u2 := cells_in hk1 2
 simp at u0 u1 u2
 go_simp
 obtain ⟨V2, hV2⟩ : ∃ W, ((V1.setCell ⟨SB + 1 + 1 + 1, 0, none⟩ (.int .i64 x.key.time)).setCell ⟨SB + 1 + 1 + 1, 1, none⟩ (.int .i64 x.key.source)).setCell ⟨SB + 1 + 1 + 1, 2, none⟩ (.int .i64 x.key.seq) = W := ⟨_, rfl⟩
 have hg3 : SB + 1 + 1 + 1 < W3.heap.size → none' (SB + 1 + 1 + 1) := fun e => by have := Hz3.out; omega
 have fV2 : Fr0 none' W3 V2 := by rw [← hV2]; exact ((fV.setCell hg3 _).setCell hg3 _).setCell hg3 _
 have hk2 : V2.heap[SB + 1 + 1 + 1]? = some (.cells #[.int .i64 x.key.time, .int .i64 x.key.source, .int .i64 x.key.seq] 26 (0, 0)) := by rw [← hV2]; exact heap_set_cell (heap_set_cell (heap_set_cell hk1 _) _) _
 rw [hV2]
 refine hK.out _ _ fV2.drew (fun hS => ?_)
 clear hK K hV2 t0 t1 t2 u0 u1 u2 hg3 fV hk1
 try simp only [pUt, pUn, sEt, sEz, sEs]
 refine wpAnyH_done (by kernel_rfl) ?_ _
 obtain ⟨V, hV⟩ : ∃ W, V2.drew = W := ⟨_, rfl⟩
 have fV : Fr0 none' W3 V := by rw [← hV]; exact fV2.drew
 have HK := Lib.hid (show V.heap[SB + 1 + 1 + 1]? = some (.cells #[.int .i64 x.key.time, .int .i64 x.key.source, .int .i64 x.key.seq] 26 (0, 0)) by rw [← hV]; exact hk2)
 have HRB := Lib.hid ((fV.block (SB + 1 + 1) (Array.getElem?_eq_some_iff.1 HRB.out).1 id).trans HRB.out)
 have HA := Lib.hid ((fV.block (SB + 1) (Array.getElem?_eq_some_iff.1 HA.out).1 id).trans HA.out)
 have HS := Lib.hid ((fV.block SB (Array.getElem?_eq_some_iff.1 HS.out).1 id).trans HS.out)
 have HF := Lib.hid (HF.out.trans fV)
 rw [hV]
 clear hV hk2 fV2 fV HZ Hz3 hS
 clear hkt
 have d6 : decide ((m : Int) > 0) = true := decide_eq_true (by omega)
 have d7 : decide ((0 : Int) < (m : Int)) = true := decide_eq_true (by omega)
 have d8 : decide (0 < m) = true := decide_eq_true (by omega)
 have a0 := cells_in HA.out 0
 have a1 := cells_in HA.out 1
 have a2 := cells_in HA.out 2
 have a3 := cells_in HA.out 3
 have a4 := cells_in HA.out 4
 have a5 := cells_in HA.out 5
 have a6 := cells_in HA.out 6
 have a7 := cells_in HA.out 7
 have s0 := cells_in HS.out 0
 have s1 := cells_in HS.out 1
 have k0 := cells_in HK.out 0
 have k1 := cells_in HK.out 1
 have k2 := cells_in HK.out 2
 simp at a0 a1 a2 a3 a4 a5 a6 a7 s0 s1 k0 k1 k2
 go_wp2_with fail
 obtain ⟨ut, hut⟩ : ∃ ut, t.tmod (m : Int) = ut := ⟨_, rfl⟩
 have hub : -(m : Int) < ut ∧ ut < (m : Int) := by
  rw [← hut]
  refine ⟨?_, Int.tmod_lt_of_pos _ (by omega)⟩
  have h1 := Int.tmod_lt_of_pos (-t) (show (0 : Int) < m by omega)
  rw [Int.neg_tmod] at h1
  omega
 have wu1 : IntKind.i64.wrap ut = ut := IntWalk.i64_in _ (by omega)
 have wu2 : IntKind.i64.wrap (ut + (m : Int)) = ut + (m : Int) := IntWalk.i64_in _ (by omega)
 obtain ⟨j, hj, hjm⟩ : ∃ j : Nat, (ut + (m : Int)).tmod (m : Int) = j ∧ j < m := by
  rw [Int.tmod_eq_emod_of_nonneg (by omega)]
  have g1 := Int.emod_nonneg (ut + (m : Int)) (show (m : Int) ≠ 0 by omega)
  have g2 := Int.emod_lt_of_pos (ut + (m : Int)) (show (0 : Int) < (m : Int) by omega)
  exact ⟨((ut + (m : Int)) % (m : Int)).toNat, by omega, by omega⟩
 have wj : IntKind.i64.wrap (j : Int) = (j : Int) := IntWalk.i64_in _ (by omega)
 obtain ⟨y, hy⟩ : ∃ y, E[j]? = some y := ⟨_, List.getElem?_eq_getElem (by rw [Hm.out]; exact hjm)⟩
 obtain ⟨g0, o0, rfl, hyc⟩ := HR.out.1 j y hy
 have hgl : g0 < w.heap.size := by have := World.block_lt_of_cell? _ _ hyc.1; simpa using this
 have hyV := hyc.later HF.out
 have j1 : (0 : Int) ≤ (j : Int) := by omega
 have j2 : (j : Int) < (m : Int) := by omega
 have mz : ((m : Int) == 0) = false := beq_eq_false_iff_ne.2 (by omega)
 have mz2 : ¬ (m : Int) = 0 := by omega
 have hrgt := (H.out.good).2.2 y (List.mem_of_getElem? hy)
 have hy64 : I64 y.key.source ∧ I64 y.key.seq := rightE_i64 hrgt
 have HY64 := Lib.hid hy64
 have HZ := Lib.hid (fun (W' : World) (hf : Fr0 (fun k => k = SB + 1 + 1 + 1) V W') => (show W'.cell? ⟨SB, 1, none⟩ = some (.slice (some ⟨g0, o0, none⟩) m rc) ∧ W'.cell? ⟨SB + 1, 7, none⟩ = some (.int .i64 t) ∧ EAt W' g0 (o0 + j * 5) y from by
  have h1 := (hf.block (SB + 1) (Array.getElem?_eq_some_iff.1 HA.out).1 (fun e => by omega)).trans HA.out
  have h2 := (hf.block SB (Array.getElem?_eq_some_iff.1 HS.out).1 (fun e => by omega)).trans HS.out
  exact ⟨by rw [cells_in h2]; rfl, by rw [cells_in h1]; rfl, hyV.fr0 hf (fun e => by have := HSB.out; omega)⟩))
 have Hhj := Lib.hid hj
 have Hhu := Lib.hid hut
 clear a0 a1 a2 a3 a4 a5 a6 a7 s0 s1 k0 k1 k2
 clear hy hyc hyV hrgt hy64 hut hj
 refine wp_region_held_drew (S := fun W' => Fr0 (fun k => k = SB + 1 + 1 + 1) V W') (by kernel_rfl) ((Fr0.refl _ V).drew) (fun hHeld => ?_)
 refine tkn (i := 0) (v := .pointer (some ⟨SB, 1, none⟩)) (fun W' hSW => ?_) ?_
 ·obtain ⟨s1, a7, b0, b1, b2, b3, b4⟩ := HZ.out W' hSW
  have hut := Hhu.out
  have hj := Hhj.out
  first | (go_simp; done) | exact rfl | (go_simp; rfl) | (go_simp; omega)
 try simp only [pUt, pUn, sEt, sEz, sEs]
 refine tkn (i := 1) (v := .slice (some ⟨g0, o0, none⟩) m rc) (fun W' hSW => ?_) ?_
 ·obtain ⟨s1, a7, b0, b1, b2, b3, b4⟩ := HZ.out W' hSW
  have hut := Hhu.out
  have hj := Hhj.out
  first | (go_simp; done) | exact rfl | (go_simp; rfl) | (go_simp; omega)
 try simp only [pUt, pUn, sEt, sEz, sEs]
 refine tkn (i := 2) (v := .pointer (some ⟨SB + 1, 7, none⟩)) (fun W' hSW => ?_) ?_
 ·obtain ⟨s1, a7, b0, b1, b2, b3, b4⟩ := HZ.out W' hSW
  have hut := Hhu.out
  have hj := Hhj.out
  first | (go_simp; done) | exact rfl | (go_simp; rfl) | (go_simp; omega)
 try simp only [pUt, pUn, sEt, sEz, sEs]
 refine tkn (i := 3) (v := .int .i64 t) (fun W' hSW => ?_) ?_
 ·obtain ⟨s1, a7, b0, b1, b2, b3, b4⟩ := HZ.out W' hSW
  have hut := Hhu.out
  have hj := Hhj.out
  first | (go_simp; done) | exact rfl | (go_simp; rfl) | (go_simp; omega)
 try simp only [pUt, pUn, sEt, sEz, sEs]
 refine tkn (i := 4) (v := .int .i64 m) (fun W' hSW => ?_) ?_
 ·obtain ⟨s1, a7, b0, b1, b2, b3, b4⟩ := HZ.out W' hSW
  have hut := Hhu.out
  have hj := Hhj.out
  first | (go_simp; done) | exact rfl | (go_simp; rfl) | (go_simp; omega)
 try simp only [pUt, pUn, sEt, sEz, sEs]
 refine tkn (i := 5) (v := .int .i64 ut) (fun W' hSW => ?_) ?_
 ·obtain ⟨s1, a7, b0, b1, b2, b3, b4⟩ := HZ.out W' hSW
  have hut := Hhu.out
  have hj := Hhj.out
  first | (go_simp; done) | exact rfl | (go_simp; rfl) | (go_simp; omega)
 try simp only [pUt, pUn, sEt, sEz, sEs]
 refine tkn (i := 6) (v := .int .i64 m) (fun W' hSW => ?_) ?_
 ·obtain ⟨s1, a7, b0, b1, b2, b3, b4⟩ := HZ.out W' hSW
  have hut := Hhu.out
  have hj := Hhj.out
  first | (go_simp; done) | exact rfl | (go_simp; rfl) | (go_simp; omega)
 try simp only [pUt, pUn, sEt, sEz, sEs]
 refine tkn (i := 7) (v := .int .i64 (ut + (m : Int))) (fun W' hSW => ?_) ?_
 ·obtain ⟨s1, a7, b0, b1, b2, b3, b4⟩ := HZ.out W' hSW
  have hut := Hhu.out
  have hj := Hhj.out
  first | (go_simp; done) | exact rfl | (go_simp; rfl) | (go_simp; omega)
 try simp only [pUt, pUn, sEt, sEz, sEs]
 refine tkn (i := 8) (v := .int .i64 m) (fun W' hSW => ?_) ?_
 ·obtain ⟨s1, a7, b0, b1, b2, b3, b4⟩ := HZ.out W' hSW
  have hut := Hhu.out
  have hj := Hhj.out
  first | (go_simp; done) | exact rfl | (go_simp; rfl) | (go_simp; omega)
 try simp only [pUt, pUn, sEt, sEz, sEs]
 refine tkn (i := 9) (v := .int .i64 j) (fun W' hSW => ?_) ?_
 ·obtain ⟨s1, a7, b0, b1, b2, b3, b4⟩ := HZ.out W' hSW
  have hut := Hhu.out
  have hj := Hhj.out
  first | (go_simp; done) | exact rfl | (go_simp; rfl) | (go_simp; omega)
 try simp only [pUt, pUn, sEt, sEz, sEs]
 refine tkn (i := 10) (v := .pointer (some ⟨g0, o0 + j * 5, none⟩)) (fun W' hSW => ?_) ?_
 ·obtain ⟨s1, a7, b0, b1, b2, b3, b4⟩ := HZ.out W' hSW
  have hut := Hhu.out
  have hj := Hhj.out
  first | (go_simp; done) | exact rfl | (go_simp; rfl) | (go_simp; omega)
 try simp only [pUt, pUn, sEt, sEz, sEs]
 refine tkn (i := 11) (v := .pointer (some ⟨g0, o0 + j * 5, none⟩)) (fun W' hSW => ?_) ?_
 ·obtain ⟨s1, a7, b0, b1, b2, b3, b4⟩ := HZ.out W' hSW
  have hut := Hhu.out
  have hj := Hhj.out
  first | (go_simp; done) | exact rfl | (go_simp; rfl) | (go_simp; omega)
 try simp only [pUt, pUn, sEt, sEz, sEs]
 refine tkn (i := 12) (v := .agg #[.int .i64 y.key.time, .int .i64 y.key.source, .int .i64 y.key.seq]) (fun W' hSW => ?_) ?_
 ·obtain ⟨s1, a7, b0, b1, b2, b3, b4⟩ := HZ.out W' hSW
  have hut := Hhu.out
  have hj := Hhj.out
  first | (go_simp; done) | exact rfl | (go_simp; rfl) | (go_simp; omega)
 try simp only [pUt, pUn, sEt, sEz, sEs]
 have t0 := thaw_in HK.out 0
 have t1 := thaw_in HK.out 1
 have t2 := thaw_in HK.out 2
 have u0 := cells_in HK.out 0
 have u1 := cells_in HK.out 1
 have u2 := cells_in HK.out 2
 simp at u0 u1 u2
 refine take_call (i := 13) rfl (by kernel_rfl) (by kernel_rfl) (fun K hK => ?_)
 go_simp
 obtain ⟨V0, hV0⟩ : ∃ W, ((V.setCell ⟨SB + 1 + 1 + 1, 0, none⟩ (.int .i64 y.key.time)).setCell ⟨SB + 1 + 1 + 1, 1, none⟩ (.int .i64 y.key.source)).setCell ⟨SB + 1 + 1 + 1, 2, none⟩ (.int .i64 y.key.seq) = W := ⟨_, rfl⟩
 have fV0 : Fr0 (fun k => k = SB + 1 + 1 + 1) V V0 := by rw [← hV0]; exact (((Fr0.refl (fun k => k = SB + 1 + 1 + 1) V).setCell (fun _ => rfl) _).setCell (fun _ => rfl) _).setCell (fun _ => rfl) _
 have hkn : V0.heap[SB + 1 + 1 + 1]? = some (.cells #[.int .i64 y.key.time, .int .i64 y.key.source, .int .i64 y.key.seq] 26 (0, 0)) := by rw [← hV0]; exact heap_set_cell (heap_set_cell (heap_set_cell HK.out _) _) _
 rw [hV0]
 refine hK.out _ _ fV0.drew (fun hS => ?_)
 clear hK K hV0 t0 t1 t2 u0 u1 u2 hHeld hS
 try simp only [pUt, pUn, sEt, sEz, sEs]
 refine wpAnyH_done (by kernel_rfl) ?_ _
 obtain ⟨V1, hV1⟩ : ∃ W, V0.drew = W := ⟨_, rfl⟩
 have fV : Fr0 (fun k => k = SB + 1 + 1 + 1) V V1 := by rw [← hV1]; exact fV0.drew
 have HK := Lib.hid (show V1.heap[SB + 1 + 1 + 1]? = some (.cells #[.int .i64 y.key.time, .int .i64 y.key.source, .int .i64 y.key.seq] 26 (0, 0)) by rw [← hV1]; exact hkn)
 have HRB := Lib.hid ((fV.block (SB + 1 + 1) (Array.getElem?_eq_some_iff.1 HRB.out).1 (fun e => by omega)).trans HRB.out)
 have HA := Lib.hid ((fV.block (SB + 1) (Array.getElem?_eq_some_iff.1 HA.out).1 (fun e => by omega)).trans HA.out)
 have HS := Lib.hid ((fV.block SB (Array.getElem?_eq_some_iff.1 HS.out).1 (fun e => by omega)).trans HS.out)
 have HF := Lib.hid (show Fr0 none' w V1 from HF.out.trans' fV (fun k hk e => by have := HSB.out; omega))
 rw [hV1]
 clear hV1 fV0 fV hkn HZ hub wu1 wu2 wj j1 j2 mz mz2 d6 d7 d8 Hhj Hhu
 have a0 := cells_in HA.out 0
 have a1 := cells_in HA.out 1
 have a2 := cells_in HA.out 2
 have a3 := cells_in HA.out 3
 have a4 := cells_in HA.out 4
 have a5 := cells_in HA.out 5
 have a6 := cells_in HA.out 6
 have a7 := cells_in HA.out 7
 have s0 := cells_in HS.out 0
 have s1 := cells_in HS.out 1
 have k0 := cells_in HK.out 0
 have k1 := cells_in HK.out 1
 have k2 := cells_in HK.out 2
 simp at a0 a1 a2 a3 a4 a5 a6 a7 s0 s1 k0 k1 k2
 go_wp2_with fail
 have HKv := HK
 have Hft := Lib.hid (show ∀ k, ft k → k < SB from fun k hk => by have := H.out.lt k hk; have := HSB.out; omega)
 have HP := (H.out.later HF.out).cancel (nm := y.name) HY64.out.1 HY64.out.2 (by omega)
 obtain ⟨X, hX⟩ : ∃ X, (findE y.name E).getD zeroEv = X := ⟨_, rfl⟩
 obtain ⟨c, hc⟩ : ∃ c : Int, (if (findE y.name E).isSome then 0 else 6) = c := ⟨_, rfl⟩
 obtain ⟨E', hE'⟩ : ∃ E', delE y.name E = E' := ⟨_, rfl⟩
 rw [hX, hc, hE'] at HP
 have HX := Lib.hid hX
 have Hc := Lib.hid hc
 have HE' := Lib.hid hE'
 unfold evV at HP
 refine HP.mono ?_
 rintro e w5 ⟨rfl, hq5, hf5⟩
 have HQ5 := Lib.hid hq5
 clear a0 a1 a2 a3 a4 a5 a6 a7 s0 s1 k0 k1 k2
 have HK := Lib.hid ((hf5.block (SB + 1 + 1 + 1) (Array.getElem?_eq_some_iff.1 HK.out).1 (fun h => by have := Hft.out _ h; omega)).trans HK.out)
 have HRB := Lib.hid ((hf5.block (SB + 1 + 1) (Array.getElem?_eq_some_iff.1 HRB.out).1 (fun h => by have := Hft.out _ h; omega)).trans HRB.out)
 have HA := Lib.hid ((hf5.block (SB + 1) (Array.getElem?_eq_some_iff.1 HA.out).1 (fun h => by have := Hft.out _ h; omega)).trans HA.out)
 have HS := Lib.hid ((hf5.block SB (Array.getElem?_eq_some_iff.1 HS.out).1 (fun h => by have := Hft.out _ h; omega)).trans HS.out)
 have F5 := Lib.hid (show Fr0 ft w w5 from (HF.out.mono (fun _ _ h => h.elim)).trans hf5)
 have HGR := Lib.hid (show ∀ k, qgrow ft V1 w5 k → ft k ∨ w.heap.size ≤ k from fun k hk => hk.imp id (fun h => Nat.le_trans HF.out.size h.1))
 have HKv5 := Lib.hid (show SB + 1 + 1 + 1 < w5.heap.size from (Array.getElem?_eq_some_iff.1 HK.out).1)
 have HRE := Lib.hid (HR.out.1.fr0 F5.out (fun g o s e => (HR.out.2.2 g o s e).1))
 have hX5 := hX
 have hC5 : (if (findE y.name E).isSome then (0 : Int) else 6) = c := by rw [← hc] <;> skip
 have hE5 := hE'
 clear HP hq5 hf5 hc hE' hX
 obtain ⟨XB, hXB⟩ : ∃ b, w5.heap.size = b := ⟨_, rfl⟩
 obtain ⟨V5, hV5⟩ : ∃ W, w5.alloc (.cells #[.int .i64 X.key.time, .int .i64 X.key.source, .int .i64 X.key.seq, .int .i64 X.to, .int .i64 X.value] 28) = W := ⟨_, rfl⟩
 have hf : Fr0 none' w5 V5 := by rw [← hV5]; exact (Fr0.refl _ _).alloc _
 have HXB := Lib.hid (show V5.heap[XB]? = some (.cells (cev X).toArray 28 (0, 0)) by rw [← hV5, ← hXB]; exact World.alloc_heap_new _ _)
 have HK := Lib.hid ((hf.block (SB + 1 + 1 + 1) (Array.getElem?_eq_some_iff.1 HK.out).1 id).trans HK.out)
 have HRB := Lib.hid ((hf.block (SB + 1 + 1) (Array.getElem?_eq_some_iff.1 HRB.out).1 id).trans HRB.out)
 have HA := Lib.hid ((hf.block (SB + 1) (Array.getElem?_eq_some_iff.1 HA.out).1 id).trans HA.out)
 have HS := Lib.hid ((hf.block SB (Array.getElem?_eq_some_iff.1 HS.out).1 id).trans HS.out)
 have HQ6 := Lib.hid (HQ5.out.later hf)
 have F6 := Lib.hid (F5.out.trans (hf.mono (fun _ _ h => h.elim)))
 have HRE6 := Lib.hid (HRE.out.later hf)
 have hsz := Lib.hid (show w5.heap.size ≤ V5.heap.size from hf.size)
 have HxB := Lib.hid hXB
 clear hf hXB
 have a0 := cells_in HA.out 0
 have a1 := cells_in HA.out 1
 have a2 := cells_in HA.out 2
 have a3 := cells_in HA.out 3
 have a4 := cells_in HA.out 4
 have a5 := cells_in HA.out 5
 have a6 := cells_in HA.out 6
 have a7 := cells_in HA.out 7
 have s0 := cells_in HS.out 0
 have s1 := cells_in HS.out 1
 have k0 := cells_in HK.out 0
 have k1 := cells_in HK.out 1
 have k2 := cells_in HK.out 2
 simp at a0 a1 a2 a3 a4 a5 a6 a7 s0 s1 k0 k1 k2
 subst hV5
 go_wp2_with fail
 have hPr := rCancel_any (n : Int) E HRE6.out Hm.out (by omega) hmrc H.out.good.2.1 y.name
 rw [hX5, hC5, hE5] at hPr
 unfold evV at hPr
 refine hPr.mono ?_
 rintro e w6 ⟨na, nm, nc, rfl, hA, hf⟩
 obtain ⟨b', c', hv, hnc, hne, hnb⟩ := hA
 simp only [Value.agg.injEq, Array.mk.injEq, List.cons.injEq, Value.slice.injEq, and_true, true_and] at hv
 obtain ⟨rfl, hnm, rfl⟩ := hv
 rw [← hnm] at hnc
 have Hnm := Lib.hid hnm.symm
 have HNE := Lib.hid hne
 have HNB := Lib.hid (show ∀ g o s, (na : Option Addr) = some ⟨g, o, s⟩ → (∃ o' s', (some ⟨g0, o0, none⟩ : Option Addr) = some ⟨g, o', s'⟩) ∨ (w5.heap.size ≤ g ∧ g < w6.heap.size) from fun g o s e => (hnb g o s e).imp id (fun h => ⟨Nat.le_trans hsz.out h.1, h.2⟩))
 clear a0 a1 a2 a3 a4 a5 a6 a7 s0 s1 k0 k1 k2
 have HK := Lib.hid ((hf.block (SB + 1 + 1 + 1) (Array.getElem?_eq_some_iff.1 HK.out).1 id).trans HK.out)
 have HRB := Lib.hid ((hf.block (SB + 1 + 1) (Array.getElem?_eq_some_iff.1 HRB.out).1 id).trans HRB.out)
 have HA := Lib.hid ((hf.block (SB + 1) (Array.getElem?_eq_some_iff.1 HA.out).1 id).trans HA.out)
 have HS := Lib.hid ((hf.block SB (Array.getElem?_eq_some_iff.1 HS.out).1 id).trans HS.out)
 have HXB := Lib.hid ((hf.block XB (Array.getElem?_eq_some_iff.1 HXB.out).1 id).trans HXB.out)
 have HXs := Lib.hid (show XB < w6.heap.size ∧ SB + 1 + 1 + 1 < XB from ⟨(Array.getElem?_eq_some_iff.1 HXB.out).1, by have := HxB.out; have := HKv5.out; omega⟩)
 have HQ6 := Lib.hid (HQ6.out.later hf)
 have F6 := Lib.hid (F6.out.trans (hf.mono (fun _ _ h => h.elim)))
 clear hPr hf hnm hne hnb hX5 hC5 hE5
 go_wp2_with fail
 obtain ⟨NB, hNB⟩ : ∃ B, w6.heap.size = B := ⟨_, rfl⟩
 obtain ⟨W7, hW7⟩ : ∃ W, (w6.alloc (.cells #[.int .i64 n, .slice na nm nc] 50)).alloc (.cells #[.int .i64 X.key.time, .int .i64 X.key.source, .int .i64 X.key.seq, .int .i64 X.to, .int .i64 X.value] 28) = W := ⟨_, rfl⟩
 have f7 : Fr0 none' w6 W7 := by rw [← hW7]; exact ((Fr0.refl _ _).alloc _).alloc _
 have HN := Lib.hid (show W7.heap[NB]? = some (.cells #[.int .i64 n, .slice na nm nc] 50 (0, 0)) by
  rw [← hW7, ← hNB]
  exact (((Fr0.refl none' (w6.alloc (.cells #[.int .i64 n, .slice na nm nc] 50))).alloc _).block w6.heap.size (by rw [World.size_alloc]; omega) id).trans (World.alloc_heap_new w6 _))
 have HYb := Lib.hid (show W7.heap[NB + 1]? = some (.cells (cev X).toArray 28 (0, 0)) by
  have h7 := World.alloc_heap_new (w6.alloc (.cells #[.int .i64 n, .slice na nm nc] 50)) (.cells #[.int .i64 X.key.time, .int .i64 X.key.source, .int .i64 X.key.seq, .int .i64 X.to, .int .i64 X.value] 28)
  rw [World.size_alloc, hNB] at h7
  rw [← hW7]
  exact h7)
 have HK := Lib.hid ((f7.block (SB + 1 + 1 + 1) (Array.getElem?_eq_some_iff.1 HK.out).1 id).trans HK.out)
 have HRB := Lib.hid ((f7.block (SB + 1 + 1) (Array.getElem?_eq_some_iff.1 HRB.out).1 id).trans HRB.out)
 have HA := Lib.hid ((f7.block (SB + 1) (Array.getElem?_eq_some_iff.1 HA.out).1 id).trans HA.out)
 have HS := Lib.hid ((f7.block SB (Array.getElem?_eq_some_iff.1 HS.out).1 id).trans HS.out)
 have HXB := Lib.hid ((f7.block XB (Array.getElem?_eq_some_iff.1 HXB.out).1 id).trans HXB.out)
 have HQ7 := Lib.hid (HQ6.out.later f7)
 have F7 := Lib.hid (F6.out.trans (f7.mono (fun _ _ h => h.elim)))
 have HNE := Lib.hid (HNE.out.later f7)
 have HNB := Lib.hid (show ∀ g o s, (na : Option Addr) = some ⟨g, o, s⟩ → (∃ o' s', (some ⟨g0, o0, none⟩ : Option Addr) = some ⟨g, o', s'⟩) ∨ (w5.heap.size ≤ g ∧ g < W7.heap.size) from fun g o s e => (HNB.out g o s e).imp id (fun h => ⟨h.1, Nat.lt_of_lt_of_le h.2 f7.size⟩))
 have HNr := Lib.hid (show SB + 1 + 1 < XB ∧ SB + 1 + 1 < NB from ⟨by have := HXs.out; omega, by have := HXs.out; omega⟩)
 rw [hW7]
 try rw [hNB]
 try rw [HxB.out]
 clear hW7 hNB f7
 have HY := Lib.hid (fun (W' : World) (hf : Fr0 (fun k => k = SB + 1 + 1) W7 W') => (show (W'.cell? ⟨NB, 0, none⟩ = some (.int .i64 n) ∧ W'.cell? ⟨NB, 1, none⟩ = some (.slice na nm nc)) ∧ EAt W' XB 0 X ∧ EAt W' (NB + 1) 0 X from by
  have hn := HNr.out
  have h1 := (hf.block XB (Array.getElem?_eq_some_iff.1 HXB.out).1 (fun e => by omega)).trans HXB.out
  have h2 := (hf.block (NB + 1) (Array.getElem?_eq_some_iff.1 HYb.out).1 (fun e => by omega)).trans HYb.out
  have h3 := (hf.block NB (Array.getElem?_eq_some_iff.1 HN.out).1 (fun e => by omega)).trans HN.out
  refine ⟨⟨by rw [cells_in h3]; rfl, by rw [cells_in h3]; rfl⟩, ⟨?_, ?_, ?_, ?_, ?_⟩, ⟨?_, ?_, ?_, ?_, ?_⟩⟩
  all_goals first | (rw [cells_in h1]; rfl) | (rw [cells_in h2]; rfl)))
 have hse : sameE ⟨⟨X.key.time, X.key.source, X.key.seq⟩, X.to, X.value⟩ ⟨⟨X.key.time, X.key.source, X.key.seq⟩, X.to, X.value⟩ = true := by unfold sameE; simp
 refine wp_region_held_drew (S := fun W' => Fr0 (fun k => k = SB + 1 + 1) W7 W') (by kernel_rfl) ((Fr0.refl _ W7).drew) (fun hHeld => ?_)
 refine tkn (i := 0) (v := .pointer (some ⟨qb, 0, none⟩)) (fun W' hSW => ?_) ?_
 ·obtain ⟨⟨n0, n1⟩, ⟨x0, x1, x2, x3, x4⟩, y0, y1, y2, y3, y4⟩ := HY.out W' hSW
  simp only [Nat.zero_add] at x1 x2 x3 x4 y1 y2 y3 y4
  first | (go_simp; done) | exact rfl | (go_simp; rfl) | (go_simp; omega)
 try simp only [pUt, pUn, sEt, sEz, sEs]
 refine tkn (i := 1) (v := .agg #[.int .i64 n, .slice na nm nc]) (fun W' hSW => ?_) ?_
 ·obtain ⟨⟨n0, n1⟩, ⟨x0, x1, x2, x3, x4⟩, y0, y1, y2, y3, y4⟩ := HY.out W' hSW
  simp only [Nat.zero_add] at x1 x2 x3 x4 y1 y2 y3 y4
  first | (go_simp; done) | exact rfl | (go_simp; rfl) | (go_simp; omega)
 try simp only [pUt, pUn, sEt, sEz, sEs]
 refine tkn (i := 2) (v := .agg #[.int .i64 X.key.time, .int .i64 X.key.source, .int .i64 X.key.seq, .int .i64 X.to, .int .i64 X.value]) (fun W' hSW => ?_) ?_
 ·obtain ⟨⟨n0, n1⟩, ⟨x0, x1, x2, x3, x4⟩, y0, y1, y2, y3, y4⟩ := HY.out W' hSW
  simp only [Nat.zero_add] at x1 x2 x3 x4 y1 y2 y3 y4
  first | (go_simp; done) | exact rfl | (go_simp; rfl) | (go_simp; omega)
 try simp only [pUt, pUn, sEt, sEz, sEs]
 refine tkn (i := 3) (v := .agg #[.int .i64 X.key.time, .int .i64 X.key.source, .int .i64 X.key.seq, .int .i64 X.to, .int .i64 X.value]) (fun W' hSW => ?_) ?_
 ·obtain ⟨⟨n0, n1⟩, ⟨x0, x1, x2, x3, x4⟩, y0, y1, y2, y3, y4⟩ := HY.out W' hSW
  simp only [Nat.zero_add] at x1 x2 x3 x4 y1 y2 y3 y4
  first | (go_simp; done) | exact rfl | (go_simp; rfl) | (go_simp; omega)
 try simp only [pUt, pUn, sEt, sEz, sEs]
 refine tkn (i := 4) (v := .bool true) (fun W' hSW => ?_) ?_
 ·obtain ⟨⟨n0, n1⟩, ⟨x0, x1, x2, x3, x4⟩, y0, y1, y2, y3, y4⟩ := HY.out W' hSW
  simp only [Nat.zero_add] at x1 x2 x3 x4 y1 y2 y3 y4
  first | (go_simp; done) | exact rfl | (go_simp; rfl) | (go_simp; omega)
 try simp only [pUt, pUn, sEt, sEz, sEs]
 refine tkn (i := 5) (v := .bool true) (fun W' hSW => ?_) ?_
 ·obtain ⟨⟨n0, n1⟩, ⟨x0, x1, x2, x3, x4⟩, y0, y1, y2, y3, y4⟩ := HY.out W' hSW
  simp only [Nat.zero_add] at x1 x2 x3 x4 y1 y2 y3 y4
  first | (go_simp; done) | exact rfl | (go_simp; rfl) | (go_simp; omega)
 try simp only [pUt, pUn, sEt, sEz, sEs]
 refine tkn (i := 6) (v := .int .i64 c) (fun W' hSW => ?_) ?_
 ·obtain ⟨⟨n0, n1⟩, ⟨x0, x1, x2, x3, x4⟩, y0, y1, y2, y3, y4⟩ := HY.out W' hSW
  simp only [Nat.zero_add] at x1 x2 x3 x4 y1 y2 y3 y4
  first | (go_simp; done) | exact rfl | (go_simp; rfl) | (go_simp; omega)
 try simp only [pUt, pUn, sEt, sEz, sEs]
 refine tkn (i := 7) (v := .int .i64 c) (fun W' hSW => ?_) ?_
 ·obtain ⟨⟨n0, n1⟩, ⟨x0, x1, x2, x3, x4⟩, y0, y1, y2, y3, y4⟩ := HY.out W' hSW
  simp only [Nat.zero_add] at x1 x2 x3 x4 y1 y2 y3 y4
  first | (go_simp; done) | exact rfl | (go_simp; rfl) | (go_simp; omega)
 try simp only [pUt, pUn, sEt, sEz, sEs]
 refine tkn (i := 8) (v := .bool true) (fun W' hSW => ?_) ?_
 ·obtain ⟨⟨n0, n1⟩, ⟨x0, x1, x2, x3, x4⟩, y0, y1, y2, y3, y4⟩ := HY.out W' hSW
  simp only [Nat.zero_add] at x1 x2 x3 x4 y1 y2 y3 y4
  first | (go_simp; done) | exact rfl | (go_simp; rfl) | (go_simp; omega)
 try simp only [pUt, pUn, sEt, sEz, sEs]
 refine tkn (i := 9) (v := .bool true) (fun W' hSW => ?_) ?_
 ·obtain ⟨⟨n0, n1⟩, ⟨x0, x1, x2, x3, x4⟩, y0, y1, y2, y3, y4⟩ := HY.out W' hSW
  simp only [Nat.zero_add] at x1 x2 x3 x4 y1 y2 y3 y4
  first | (go_simp; done) | exact rfl | (go_simp; rfl) | (go_simp; omega)
 try simp only [pUt, pUn, sEt, sEz, sEs]
 refine tkn (i := 10) (v := .pointer (some ⟨qb, 0, none⟩)) (fun W' hSW => ?_) ?_
 ·obtain ⟨⟨n0, n1⟩, ⟨x0, x1, x2, x3, x4⟩, y0, y1, y2, y3, y4⟩ := HY.out W' hSW
  simp only [Nat.zero_add] at x1 x2 x3 x4 y1 y2 y3 y4
  first | (go_simp; done) | exact rfl | (go_simp; rfl) | (go_simp; omega)
 try simp only [pUt, pUn, sEt, sEz, sEs]
 have t0 := thaw_in HRB.out 0
 have t1 := thaw_in HRB.out 1
 have u0 := cells_in HRB.out 0
 have u1 := cells_in HRB.out 1
 simp at u0 u1
 refine take_call (i := 11) rfl (by kernel_rfl) (by kernel_rfl) (fun K hK => ?_)
 go_simp
 obtain ⟨W9, hW9⟩ : ∃ W, ((W7).setCell ⟨SB + 1 + 1, 0, none⟩ (.int .i64 n)).setCell ⟨SB + 1 + 1, 1, none⟩ (.slice na nm nc) = W := ⟨_, rfl⟩
 have f9 : Fr0 (fun k => k = SB + 1 + 1) (W7) W9 := by rw [← hW9]; exact ((Fr0.refl (fun k => k = SB + 1 + 1) (W7)).setCell (fun _ => rfl) _).setCell (fun _ => rfl) _
 have hb9 : W9.heap[SB + 1 + 1]? = some (.cells #[.int .i64 n, .slice na nm nc] 50 (0, 0)) := by rw [← hW9]; exact heap_set_cell (heap_set_cell HRB.out _) _
 rw [hW9]
 refine hK.out _ _ f9.drew (fun hS => ?_)
 clear hK K hW9 t0 t1 u0 u1
 try simp only [pUt, pUn, sEt, sEz, sEs]
 refine tkn (i := 12) (v := .bool true) (fun W' hSW => ?_) ?_
 ·obtain ⟨⟨n0, n1⟩, ⟨x0, x1, x2, x3, x4⟩, y0, y1, y2, y3, y4⟩ := HY.out W' hSW
  simp only [Nat.zero_add] at x1 x2 x3 x4 y1 y2 y3 y4
  first | (go_simp; done) | exact rfl | (go_simp; rfl) | (go_simp; omega)
 try simp only [pUt, pUn, sEt, sEz, sEs]
 refine wpAnyH_done (by kernel_rfl) ?_ _
 obtain ⟨U9, hU⟩ : ∃ W, W9.drew = W := ⟨_, rfl⟩
 have hbU : U9.heap[SB + 1 + 1]? = some (.cells #[.int .i64 n, .slice na nm nc] 50 (0, 0)) := by rw [← hU]; exact hb9
 have f79 : Fr0 (fun k => k = SB + 1 + 1) W7 U9 := by rw [← hU]; exact f9.drew
 rw [hU]
 clear hb9 f9 hU hS hHeld
 have hb9 := hbU
 have r0 := cells_in hb9 0
 have r1 := cells_in hb9 1
 simp at r0 r1
 have HQ9 := Lib.hid (HQ7.out.fr0 f79 (fun k hk e => by
  subst e
  rcases hk with hk | hk
  ·have := Hft.out _ hk; omega
  ·have := hk.1; have := (Array.getElem?_eq_some_iff.1 HKv.out).1; omega))
 have F79 := Lib.hid f79
 clear f79 hbU HY
 go_wp2_with fail
 have hgr := HGR.out
 have hlt5 := HQ5.out.lt
 have hcr := HR.out.2.2
 have hcase : ∀ g o s, (na : Option Addr) = some ⟨g, o, s⟩ → g < (U9).heap.size ∧ g ≠ SB + 1 + 1 ∧ ¬ (qgrow ft V1 w5) g := fun g o s e => by
  have h2 := F79.out.size
  rcases HNB.out g o s e with ⟨o', s', e'⟩ | h1
  ·obtain ⟨h3, h4⟩ := hcr g o' s' e'
   have := HSB.out
   have := F7.out.size
   refine ⟨by omega, by omega, fun hk => ?_⟩
   rcases hgr g hk with h5 | h5
   ·exact h3 h5
   ·omega
  ·have := HKv5.out
   refine ⟨by omega, by omega, fun hk => ?_⟩
   have := hlt5 g hk
   omega
 refine bodyPost_ret (v := .tuple #[.pointer (some ⟨qb, 0, none⟩), .agg #[.int .i64 n, .slice na nm nc], .bool true]) (by simp [results, Tryz.results20, go_sem, r0, r1]) rfl ⟨qb, T, E', qgrow ft V1 w5, na, nc, by rw [Hnm.out], HQ9.out, by omega, hgr, ⟨HNE.out.fr0 F79.out (fun g o s e => (hcase g o s e).2.1), by rw [Hnm.out]; exact hnc, fun g o s e => ⟨(hcase g o s e).2.2, (hcase g o s e).1⟩⟩, F7.out.trans' F79.out (fun k hk e => by have := HSB.out; omega), fun g o s e => (HNB.out g o s e).imp id (fun h => by have := HSB.out; have := HKv5.out; omega)⟩
end Go.Proofs.YtmcgipilopfgoaaGreat

/-
  The reference of layer 10: TakeBefore, From.
-/
namespace Go.Proofs.YtmcgipilopfgoaaGreat
open Go Go.RowKit
attribute [local go_sem ↓] Go.wp_at_zero Go.wp_at_succ
attribute [local go_sem] Oper.semAt_some wide_fn wide_depth wide_fnR wide_depthR

theorem bef_snoc {t : Int} {E : List Ev} {i : Nat} {x : Ev} (hx : E[i]? = some x) : befE t (E.take (i + 1)) = befE t (E.take i) ++ (if x.key.time < t then [x] else []) ∧ aftE t (E.take (i + 1)) = aftE t (E.take i) ++ (if x.key.time < t then [] else [x]) := by
 unfold befE aftE
 rw [List.take_add_one, hx, List.filter_append, List.filter_append]
 by_cases h : x.key.time < t
 ·simp [h]
 ·simp [h]
set_option maxRecDepth 100000 in
set_option maxHeartbeats 2000000 in
theorem rTakeBefore_any {w : World} {a : Option Addr} {m cap : Nat} (c : Int) (E : List Ev) (h : EsIn w a E) (hl : E.length = m) (hm : m ≤ 1000) (t : Int) :
  Calls Tryz.prog 49 #[.agg #[.int .i64 c, .slice a m cap], .int .i64 t] w fun e w' => ∃ v r, e = .returned (.tuple #[v, r]) ∧ RAt w' a w.heap.size c (aftE t E) v ∧ w'.ownsRow w.heap.size 28 5 r (befE t E).length (flatEv (befE t E)) ∧ Fr0 none' w w' := by
 obtain ⟨i0, hi, hz0, hz1, hz2⟩ := info_parts info_event0
 have H := Lib.hid h
 have Hl := Lib.hid hl
 clear h hl
 go_enter Tryz.func49, Tryz.ntmps49
 go_wp2_with fail
 obtain ⟨SB, hSB⟩ : ∃ B, w.heap.size = B := ⟨_, rfl⟩
 obtain ⟨W1, hW1⟩ : ∃ W, w.alloc (.cells #[.int .i64 c, .slice a m cap] 50) = W := ⟨_, rfl⟩
 have hs1 : W1.heap[SB]? = some (.cells #[.int .i64 c, .slice a m cap] 50 (0, 0)) := by rw [← hW1, ← hSB]; exact World.alloc_heap_new w _
 have f1 : Fr0 none' w W1 := by rw [← hW1]; exact (Fr0.refl _ _).alloc _
 have z1 : W1.heap.size = SB + 1 := by rw [← hW1, World.size_alloc, hSB]
 rw [hW1]
 try rw [hSB]
 obtain ⟨W, hW⟩ : ∃ W, W1.alloc (.cells #[.int .i64 0, .slice none 0 0] 50) = W := ⟨_, rfl⟩
 have f3 : Fr0 none' W1 W := by rw [← hW]; exact (Fr0.refl _ _).alloc _
 have HZ := Lib.hid (show W.heap[SB + 1]? = some (.cells #[.int .i64 0, .slice none 0 0] 50 (0, 0)) by rw [← hW, ← z1]; exact World.alloc_heap_new W1 _)
 have HS := Lib.hid ((f3.block SB (Array.getElem?_eq_some_iff.1 hs1).1 id).trans hs1)
 have HF := Lib.hid (f1.trans f3)
 have HSB := Lib.hid hSB
 rw [hW]
 clear hW1 hSB hs1 f1 f3 hW z1
 go_loopw [6, 7, 8] (fun v6 v7 v8 wr => ∃ i : Nat, i ≤ m ∧ v8 = .int .i64 i ∧ Hid (wr.ownsRow (SB + 2) 28 5 v6 (befE t (E.take i)).length (flatEv (befE t (E.take i)))) ∧ Hid (wr.ownsRow (SB + 2) 28 5 v7 (aftE t (E.take i)).length (flatEv (aftE t (E.take i)))) ∧ Hid (∀ g g', v6.ownBlock = some g → v7.ownBlock = some g' → g ≠ g') ∧ Hid (wr.heap[SB]? = some (.cells #[.int .i64 c, .slice a m cap] 50 (0, 0))) ∧ Hid (wr.heap[SB + 1]? = some (.cells #[.int .i64 0, .slice none 0 0] 50 (0, 0))) ∧ Hid (Fr0 none' w wr)) (fun _ _ v8 _ => m - (Go.RowKit.intOf v8).toNat)
 case atStart => exact ⟨0, Nat.zero_le _, rfl, World.ownsRow_nil _ _ _ _, World.ownsRow_nil _ _ _ _, (fun g g' hg => by cases hg), HS, HZ, HF⟩
 case round =>
  obtain ⟨i, hi', rfl, HE, HA, HD, HS, HZ, HF⟩ := hrel
  obtain ⟨ea, ec, rfl, _, _⟩ := EsIn.of_own HE.out
  obtain ⟨la, lc, rfl, _, _⟩ := EsIn.of_own HA.out
  obtain ⟨B, hB⟩ : ∃ B, befE t (E.take i) = B := ⟨_, rfl⟩
  obtain ⟨A, hA⟩ : ∃ A, aftE t (E.take i) = A := ⟨_, rfl⟩
  have hle : B.length ≤ m ∧ A.length ≤ m := by
   have h1 : B.length ≤ (E.take i).length := by rw [← hB]; exact List.length_filter_le _ _
   have h2 : A.length ≤ (E.take i).length := by rw [← hA]; exact List.length_filter_le _ _
   rw [List.length_take] at h1 h2
   omega
  rw [hB] at HE HD ⊢
  rw [hA] at HA HD ⊢
  have s0 := cells_in HS.out 0
  have s1 := cells_in HS.out 1
  simp at s0 s1
  by_cases hlt : i < m
  ·obtain ⟨x, hx⟩ : ∃ x, E[i]? = some x := ⟨_, List.getElem?_eq_getElem (by rw [Hl.out]; exact hlt)⟩
   obtain ⟨g2, o, rfl, hxc⟩ := H.out i x hx
   obtain ⟨x0, x1, x2, x3, x4⟩ := hxc.later HF.out
   obtain ⟨hsb, hsa⟩ := bef_snoc (t := t) hx
   rw [hB] at hsb
   rw [hA] at hsa
   have k1 : (0 : Int) ≤ (i : Int) := by omega
   have k2 : (i : Int) < (m : Int) := by omega
   by_cases ht : x.key.time < t
   ·have d1 : decide (x.key.time < t) = true := decide_eq_true ht
    rw [if_pos ht] at hsb hsa
    rw [List.append_nil] at hsa
    have Hsb := Lib.hid hsb
    have Hsa := Lib.hid hsa
    clear hx hxc hB hA hsb hsa ht
    have hsrc := Src.newRow (P := Tryz.prog) (size := 5) (tx := 30) (ty := 28) wr Tryz.underlying30 1 1 (cev x) rfl (by simp [Value.oneCell', cev])
    simp only [cev] at hsrc
    have hbase : SB + 2 ≤ wr.heap.size := by have h1 := (Array.getElem?_eq_some_iff.1 HZ.out).1; omega
    go_wp2_with (at_builtin; refine wpList_append_k rfl _ _ 30 30 rfl (SB + 2) 28 i0 (.agg #[.int .i64 0, .int .i64 0, .int .i64 0, .int .i64 0, .int .i64 0]) 5 40 Tryz.underlying30 hi hz0 hz1 hz2 rfl (by decide) (Value.slice ea B.length ec) (B.length) _ rfl (ownsRow_fr0 HE.out ((Fr0.refl none' wr).alloc _) (fun _ _ h => h)) (.slice (some ⟨(wr).heap.size, 0, none⟩) 1 1) 1 _ rfl hsrc (by unfold maxLen; omega) (by omega) (by simp; omega) ?_; intro v9 w9 hown hgrow hdr hob; obtain ⟨g9, c9, rfl⟩ := ownsRow_k_succ hown; have Lw9 := Lib.hid HE.out.lt; have Fw9 := Lib.hid (show Fr0 (fun i => (Value.slice ea B.length ec).ownBlock = some i) wr w9 from ((Fr0.refl _ wr).alloc _).grown hgrow (fun i hi _ => hi)); have Rw9 := Lib.hid hown; have Ow9 := Lib.hid hob; clear hown hgrow hdr hob hsrc)
    have HSn := Lib.hid ((Fw9.out.block SB (Array.getElem?_eq_some_iff.1 HS.out).1 (fun h => by have := (Lw9.out SB h).1; omega)).trans HS.out)
    have HZn := Lib.hid ((Fw9.out.block (SB + 1) (Array.getElem?_eq_some_iff.1 HZ.out).1 (fun h => by have := (Lw9.out (SB + 1) h).1; omega)).trans HZ.out)
    have HFn := Lib.hid (HF.out.trans' Fw9.out (fun i hi h => by have := (Lw9.out i h).1; have := HSB.out; omega))
    clear x0 x1 x2 x3 x4 s0 s1
    go_roundw
    case rel =>
     refine ⟨i + 1, by omega, by go_num, ?_, ?_, ?_, HSn, HZn, HFn⟩
     ·rw [Hsb.out, List.length_append, List.length_singleton]
      have := Rw9.out
      simpa [Lib.hid, Hid, flatEv, cev] using this
     ·rw [Hsa.out]
      exact ownsRow_fr0 HA.out Fw9.out (fun g hg h => HD.out g g h hg rfl)
     ·intro g g' hg hg'
      rcases Ow9.out with h | h
      ·rw [h] at hg
       exact HD.out g g' hg hg'
      ·rw [h] at hg
       injection hg with hg
       have := (HA.out.lt g' hg').2
       rw [World.size_alloc] at hg
       omega
    case measure => simp [Go.RowKit.intOf]; omega
   ·have d1 : decide (x.key.time < t) = false := decide_eq_false ht
    rw [if_neg ht] at hsb hsa
    rw [List.append_nil] at hsb
    have Hsb := Lib.hid hsb
    have Hsa := Lib.hid hsa
    clear hx hxc hB hA hsb hsa ht
    have hsrc := Src.newRow (P := Tryz.prog) (size := 5) (tx := 30) (ty := 28) wr Tryz.underlying30 1 1 (cev x) rfl (by simp [Value.oneCell', cev])
    simp only [cev] at hsrc
    have hbase : SB + 2 ≤ wr.heap.size := by have h1 := (Array.getElem?_eq_some_iff.1 HZ.out).1; omega
    go_wp2_with (at_builtin; refine wpList_append_k rfl _ _ 30 30 rfl (SB + 2) 28 i0 (.agg #[.int .i64 0, .int .i64 0, .int .i64 0, .int .i64 0, .int .i64 0]) 5 40 Tryz.underlying30 hi hz0 hz1 hz2 rfl (by decide) (Value.slice la A.length lc) (A.length) _ rfl (ownsRow_fr0 HA.out ((Fr0.refl none' wr).alloc _) (fun _ _ h => h)) (.slice (some ⟨(wr).heap.size, 0, none⟩) 1 1) 1 _ rfl hsrc (by unfold maxLen; omega) (by omega) (by simp; omega) ?_; intro v9 w9 hown hgrow hdr hob; obtain ⟨g9, c9, rfl⟩ := ownsRow_k_succ hown; have Lw9 := Lib.hid HA.out.lt; have Fw9 := Lib.hid (show Fr0 (fun i => (Value.slice la A.length lc).ownBlock = some i) wr w9 from ((Fr0.refl _ wr).alloc _).grown hgrow (fun i hi _ => hi)); have Rw9 := Lib.hid hown; have Ow9 := Lib.hid hob; clear hown hgrow hdr hob hsrc)
    have HSn := Lib.hid ((Fw9.out.block SB (Array.getElem?_eq_some_iff.1 HS.out).1 (fun h => by have := (Lw9.out SB h).1; omega)).trans HS.out)
    have HZn := Lib.hid ((Fw9.out.block (SB + 1) (Array.getElem?_eq_some_iff.1 HZ.out).1 (fun h => by have := (Lw9.out (SB + 1) h).1; omega)).trans HZ.out)
    have HFn := Lib.hid (HF.out.trans' Fw9.out (fun i hi h => by have := (Lw9.out i h).1; have := HSB.out; omega))
    clear x0 x1 x2 x3 x4 s0 s1
    go_roundw
    case rel =>
     refine ⟨i + 1, by omega, by go_num, ?_, ?_, ?_, HSn, HZn, HFn⟩
     ·rw [Hsb.out]
      exact ownsRow_fr0 HE.out Fw9.out (fun g hg h => HD.out g g hg h rfl)
     ·rw [Hsa.out, List.length_append, List.length_singleton]
      have := Rw9.out
      simpa [Lib.hid, Hid, flatEv, cev] using this
     ·intro g g' hg hg'
      rcases Ow9.out with h | h
      ·rw [h] at hg'
       exact HD.out g g' hg hg'
      ·rw [h] at hg'
       injection hg' with hg'
       have := (HE.out.lt g hg).2
       rw [World.size_alloc] at hg'
       omega
    case measure => simp [Go.RowKit.intOf]; omega
  ·have hEt : E.take i = E := List.take_of_length_le (by rw [Hl.out]; omega)
   rw [hEt] at hB hA
   have HB := Lib.hid hB
   have HAl := Lib.hid hA
   clear hEt hB hA
   have t0 := thaw_in HZ.out 0
   have t1 := thaw_in HZ.out 1
   have u0 := cells_in HZ.out 0
   have u1 := cells_in HZ.out 1
   simp at u0 u1
   go_wp2_with fail
   obtain ⟨W6, hW6⟩ : ∃ W, (wr.setCell ⟨SB + 1, 0, none⟩ (.int .i64 c)).setCell ⟨SB + 1, 1, none⟩ (.slice la A.length lc) = W := ⟨_, rfl⟩
   have f7 : Fr0 (fun k => k = SB + 1) wr W6 := by rw [← hW6]; exact ((Fr0.refl (fun k => k = SB + 1) wr).setCell (fun _ => rfl) _).setCell (fun _ => rfl) _
   have hb6 : W6.heap[SB + 1]? = some (.cells #[.int .i64 c, .slice la A.length lc] 50 (0, 0)) := by rw [← hW6]; exact heap_set_cell (heap_set_cell HZ.out _) _
   rw [hW6]
   clear hW6 t0 t1 u0 u1
   have r0 := cells_in hb6 0
   have r1 := cells_in hb6 1
   simp at r0 r1
   refine bodyPost_ret (v := .tuple #[.agg #[.int .i64 c, .slice la A.length lc], .slice ea B.length ec]) (by simp [results, Tryz.results49, go_sem, r0, r1]) rfl ⟨_, _, rfl, ?_, ?_, HF.out.trans' f7 (fun i hi e => by have := HSB.out; omega)⟩
   ·rw [HAl.out]
    exact RAt.own (ownsRow_fr0 HA.out f7 (fun g hg e => by have := (HA.out.lt g hg).1; omega)) (by have := HSB.out; omega)
   ·rw [HB.out]
    exact own_low (ownsRow_fr0 HE.out f7 (fun g hg e => by have := (HE.out.lt g hg).1; omega)) (by have := HSB.out; omega)
set_option maxRecDepth 100000 in
set_option maxHeartbeats 2000000 in
theorem rFrom_any {w : World} {a : Option Addr} {m cap : Nat} (c : Int) (E : List Ev) (h : EsIn w a E) (hl : E.length = m) (hm : m ≤ 1000) (k : Key3) (most : Int) :
  Calls Tryz.prog 52 #[.agg #[.int .i64 c, .slice a m cap], .agg #[.int .i64 k.time, .int .i64 k.source, .int .i64 k.seq], .int .i64 most] w fun e w' => ∃ r, e = .returned r ∧ w'.ownsRow w.heap.size 28 5 r ((geE k E).take most.toNat).length (flatEv ((geE k E).take most.toNat)) ∧ Fr0 none' w w' := by
 obtain ⟨i0, hi, hz0, hz1, hz2⟩ := info_parts info_event0
 have H := Lib.hid h
 have Hl := Lib.hid hl
 clear h hl
 obtain ⟨R, hR⟩ : ∃ R, (geE k E).take most.toNat = R := ⟨_, rfl⟩
 rw [hR]
 have HR := Lib.hid hR
 clear hR
 go_enter Tryz.func52, Tryz.ntmps52
 go_wp2_with fail
 obtain ⟨SB, hSB⟩ : ∃ B, w.heap.size = B := ⟨_, rfl⟩
 obtain ⟨W1, hW1⟩ : ∃ W, w.alloc (.cells #[.int .i64 c, .slice a m cap] 50) = W := ⟨_, rfl⟩
 have hs1 : W1.heap[SB]? = some (.cells #[.int .i64 c, .slice a m cap] 50 (0, 0)) := by rw [← hW1, ← hSB]; exact World.alloc_heap_new w _
 have f1 : Fr0 none' w W1 := by rw [← hW1]; exact (Fr0.refl _ _).alloc _
 have z1 : W1.heap.size = SB + 1 := by rw [← hW1, World.size_alloc, hSB]
 rw [hW1]
 try rw [hSB]
 obtain ⟨W, hW⟩ : ∃ W, W1.alloc (.cells #[.int .i64 k.time, .int .i64 k.source, .int .i64 k.seq] 26) = W := ⟨_, rfl⟩
 have f3 : Fr0 none' W1 W := by rw [← hW]; exact (Fr0.refl _ _).alloc _
 have HZ := Lib.hid (show W.heap[SB + 1]? = some (.cells #[.int .i64 k.time, .int .i64 k.source, .int .i64 k.seq] 26 (0, 0)) by rw [← hW, ← z1]; exact World.alloc_heap_new W1 _)
 have HS := Lib.hid ((f3.block SB (Array.getElem?_eq_some_iff.1 hs1).1 id).trans hs1)
 have HF := Lib.hid (f1.trans f3)
 have HSB := Lib.hid hSB
 rw [hW]
 clear hW1 hSB hs1 f1 f3 hW z1
 go_loopw [7, 8] (fun v7 v8 wr => ∃ i : Nat, i ≤ m ∧ v8 = .int .i64 i ∧ Hid (wr.ownsRow (SB + 2) 28 5 v7 (geE k (E.take i)).length (flatEv (geE k (E.take i)))) ∧ Hid ((geE k (E.take i)).length ≤ most.toNat) ∧ Hid (wr.heap[SB]? = some (.cells #[.int .i64 c, .slice a m cap] 50 (0, 0))) ∧ Hid (wr.heap[SB + 1]? = some (.cells #[.int .i64 k.time, .int .i64 k.source, .int .i64 k.seq] 26 (0, 0))) ∧ Hid (Fr0 none' w wr)) (fun _ v8 _ => m - (Go.RowKit.intOf v8).toNat)
 case atStart => exact ⟨0, Nat.zero_le _, rfl, World.ownsRow_nil _ _ _ _, Nat.zero_le _, HS, HZ, HF⟩
 case round =>
  obtain ⟨i, hi', rfl, HE, HM, HS, HZ, HF⟩ := hrel
  obtain ⟨oa, oc, rfl, _, _⟩ := EsIn.of_own HE.out
  obtain ⟨O, hO⟩ : ∃ O, geE k (E.take i) = O := ⟨_, rfl⟩
  have hle : O.length ≤ m := by
   have h1 : O.length ≤ (E.take i).length := by rw [← hO]; exact List.length_filter_le _ _
   rw [List.length_take] at h1
   omega
  rw [hO] at HE HM ⊢
  have s0 := cells_in HS.out 0
  have s1 := cells_in HS.out 1
  simp at s0 s1
  by_cases hlt : i < m
  ·have k1 : (0 : Int) ≤ (i : Int) := by omega
   have k2 : (i : Int) < (m : Int) := by omega
   by_cases hfull : (O.length : Int) < most
   ·obtain ⟨x, hx⟩ : ∃ x, E[i]? = some x := ⟨_, List.getElem?_eq_getElem (by rw [Hl.out]; exact hlt)⟩
    obtain ⟨g2, o, rfl, hxc⟩ := H.out i x hx
    have HX := Lib.hid (hxc.later HF.out)
    have hsn := ge_snoc (k := k) hx
    rw [hO] at hsn
    have Hsn := Lib.hid hsn
    have HL := Lib.hid (rLessK_any x.key k)
    simp only [keyV] at HL
    have d1 : decide ((O.length : Int) < most) = true := decide_eq_true hfull
    have Hfl := Lib.hid hfull
    clear hx hsn hfull hxc
    go_wp2_with fail
    clear d1
    have HY := Lib.hid (fun (W' : World) (hf : Fr0 none' wr W') => (show W'.cell? ⟨SB, 1, none⟩ = some (.slice (some ⟨g2, o, none⟩) m cap) ∧ (W'.cell? ⟨SB + 1, 0, none⟩ = some (.int .i64 k.time) ∧ W'.cell? ⟨SB + 1, 1, none⟩ = some (.int .i64 k.source) ∧ W'.cell? ⟨SB + 1, 2, none⟩ = some (.int .i64 k.seq)) ∧ EAt W' g2 (o + i * 5) x from by
     have h7 := (hf.block SB (Array.getElem?_eq_some_iff.1 HS.out).1 id).trans HS.out
     have h8 := (hf.block (SB + 1) (Array.getElem?_eq_some_iff.1 HZ.out).1 id).trans HZ.out
     have s1 := cells_in h7 1
     have b0 := cells_in h8 0
     have b1 := cells_in h8 1
     have b2 := cells_in h8 2
     simp at s1 b0 b1 b2
     exact ⟨s1, ⟨b0, b1, b2⟩, HX.out.later hf⟩))
    clear s0 s1
    refine wp_region_held_drew (S := fun W' => Fr0 none' wr W') (by kernel_rfl) ((Fr0.refl _ wr).drew) (fun hHeld => ?_)
    refine tkn (i := 0) (v := .pointer (some ⟨SB, 1, none⟩)) (fun W' hSW => ?_) ?_
    ·obtain ⟨s1, ⟨c0, c1, c2⟩, b0, b1, b2, b3, b4⟩ := HY.out W' hSW
     first | (go_simp; done) | exact rfl | (go_simp; rfl) | (go_simp; omega)
    try simp only [pUt, pUn, sEt, sEz, sEs]
    refine tkn (i := 1) (v := .slice (some ⟨g2, o, none⟩) m cap) (fun W' hSW => ?_) ?_
    ·obtain ⟨s1, ⟨c0, c1, c2⟩, b0, b1, b2, b3, b4⟩ := HY.out W' hSW
     first | (go_simp; done) | exact rfl | (go_simp; rfl) | (go_simp; omega)
    try simp only [pUt, pUn, sEt, sEz, sEs]
    refine tkn (i := 2) (v := .int .i64 i) (fun W' hSW => ?_) ?_
    ·obtain ⟨s1, ⟨c0, c1, c2⟩, b0, b1, b2, b3, b4⟩ := HY.out W' hSW
     first | (go_simp; done) | exact rfl | (go_simp; rfl) | (go_simp; omega)
    try simp only [pUt, pUn, sEt, sEz, sEs]
    refine tkn (i := 3) (v := .pointer (some ⟨g2, o + i * 5, none⟩)) (fun W' hSW => ?_) ?_
    ·obtain ⟨s1, ⟨c0, c1, c2⟩, b0, b1, b2, b3, b4⟩ := HY.out W' hSW
     first | (go_simp; done) | exact rfl | (go_simp; rfl) | (go_simp; omega)
    try simp only [pUt, pUn, sEt, sEz, sEs]
    refine tkn (i := 4) (v := .pointer (some ⟨g2, o + i * 5, none⟩)) (fun W' hSW => ?_) ?_
    ·obtain ⟨s1, ⟨c0, c1, c2⟩, b0, b1, b2, b3, b4⟩ := HY.out W' hSW
     first | (go_simp; done) | exact rfl | (go_simp; rfl) | (go_simp; omega)
    try simp only [pUt, pUn, sEt, sEz, sEs]
    refine tkn (i := 5) (v := .agg #[.int .i64 x.key.time, .int .i64 x.key.source, .int .i64 x.key.seq]) (fun W' hSW => ?_) ?_
    ·obtain ⟨s1, ⟨c0, c1, c2⟩, b0, b1, b2, b3, b4⟩ := HY.out W' hSW
     first | (go_simp; done) | exact rfl | (go_simp; rfl) | (go_simp; omega)
    try simp only [pUt, pUn, sEt, sEz, sEs]
    refine tkn (i := 6) (v := .agg #[.int .i64 k.time, .int .i64 k.source, .int .i64 k.seq]) (fun W' hSW => ?_) ?_
    ·obtain ⟨s1, ⟨c0, c1, c2⟩, b0, b1, b2, b3, b4⟩ := HY.out W' hSW
     first | (go_simp; done) | exact rfl | (go_simp; rfl) | (go_simp; omega)
    try simp only [pUt, pUn, sEt, sEz, sEs]
    refine take_call (i := 7) rfl (by kernel_rfl) (by kernel_rfl) (fun K hK => ?_)
    go_simp
    refine (HL.out _).mono ?_
    rintro e w2 ⟨rfl, hf2⟩
    have hf2 : Fr0 none' wr w2 := ((Fr0.refl none' wr).drew).trans hf2
    obtain ⟨b, hb⟩ : ∃ b, decide (cmpK x.key k < 0) = b := ⟨_, rfl⟩
    rw [hb]
    have Hb := Lib.hid hb
    clear hb
    go_wp2_with fail
    refine hK.out _ _ hf2 (fun hS => ?_)
    clear hK K
    try simp only [pUt, pUn, sEt, sEz, sEs]
    refine tkn (i := 8) (v := .bool !b) (fun W' hSW => ?_) ?_
    ·obtain ⟨s1, ⟨c0, c1, c2⟩, b0, b1, b2, b3, b4⟩ := HY.out W' hSW
     first | (go_simp; done) | exact rfl | (go_simp; rfl) | (go_simp; omega)
    try simp only [pUt, pUn, sEt, sEz, sEs]
    refine wpAnyH_done (by kernel_rfl) ?_ _
    clear hHeld hS
    have HE2 := Lib.hid (ownsRow_fr0 HE.out hf2 (fun _ _ h => h))
    have HS2 := Lib.hid ((hf2.block SB (Array.getElem?_eq_some_iff.1 HS.out).1 id).trans HS.out)
    have HZ2 := Lib.hid ((hf2.block (SB + 1) (Array.getElem?_eq_some_iff.1 HZ.out).1 id).trans HZ.out)
    have HF2 := Lib.hid (HF.out.trans hf2)
    have HX2 := Lib.hid (HX.out.later hf2)
    clear hf2 HY
    cases b with
    | true =>
     have hsn := Hsn.out
     rw [if_neg (by have := of_decide_eq_true Hb.out; omega), List.append_nil] at hsn
     have Hs := Lib.hid hsn
     clear hsn
     go_wp2_with fail
     go_roundw
     case rel => exact ⟨i + 1, by omega, by go_num, by rw [Hs.out]; exact HE2, by rw [Hs.out]; exact HM, HS2, HZ2, HF2⟩
     case measure => simp [Go.RowKit.intOf]; omega
    | false =>
     have hsn := Hsn.out
     rw [if_pos (by have := of_decide_eq_false Hb.out; omega)] at hsn
     have Hs := Lib.hid hsn
     clear hsn
     obtain ⟨x0, x1, x2, x3, x4⟩ := HX2.out
     have s0 := cells_in HS2.out 0
     have s1 := cells_in HS2.out 1
     simp at s0 s1
     have hsrc := Src.newRow (P := Tryz.prog) (size := 5) (tx := 30) (ty := 28) w2 Tryz.underlying30 1 1 (cev x) rfl (by simp [Value.oneCell', cev])
     simp only [cev] at hsrc
     have hbase : SB + 2 ≤ w2.heap.size := by have h1 := (Array.getElem?_eq_some_iff.1 HZ2.out).1; omega
     have HEo := HE
     have HE := HE2
     go_wp2_with (at_builtin; refine wpList_append_k rfl _ _ 30 30 rfl (SB + 2) 28 i0 (.agg #[.int .i64 0, .int .i64 0, .int .i64 0, .int .i64 0, .int .i64 0]) 5 40 Tryz.underlying30 hi hz0 hz1 hz2 rfl (by decide) (Value.slice oa O.length oc) O.length _ rfl (ownsRow_fr0 HE.out ((Fr0.refl none' w2).alloc _) (fun _ _ h => h)) (.slice (some ⟨w2.heap.size, 0, none⟩) 1 1) 1 _ rfl hsrc (by unfold maxLen; omega) (by omega) (by simp; omega) ?_; intro v9 w9 hown hgrow hdr hob; obtain ⟨g9, c9, rfl⟩ := ownsRow_k_succ hown; have Lw9 := Lib.hid HE.out.lt; have Fw9 := Lib.hid (show Fr0 (fun i => (Value.slice oa O.length oc).ownBlock = some i) w2 w9 from ((Fr0.refl _ w2).alloc _).grown hgrow (fun i hi _ => hi)); have Rw9 := Lib.hid hown; clear hown hgrow hdr hob hsrc)
     have HSn := Lib.hid ((Fw9.out.block SB (Array.getElem?_eq_some_iff.1 HS2.out).1 (fun h => by have := (Lw9.out SB h).1; omega)).trans HS2.out)
     have HZn := Lib.hid ((Fw9.out.block (SB + 1) (Array.getElem?_eq_some_iff.1 HZ2.out).1 (fun h => by have := (Lw9.out (SB + 1) h).1; omega)).trans HZ2.out)
     have HFn := Lib.hid (HF2.out.trans' Fw9.out (fun i hi h => by have := (Lw9.out i h).1; have := HSB.out; omega))
     clear x0 x1 x2 x3 x4 s0 s1
     go_roundw
     case rel =>
      refine ⟨i + 1, by omega, by go_num, ?_, ?_, HSn, HZn, HFn⟩
      ·rw [Hs.out, List.length_append, List.length_singleton]
       have := Rw9.out
       simpa [Lib.hid, Hid, flatEv, cev] using this
      ·rw [Hs.out, List.length_append, List.length_singleton]
       have := Hfl.out
       have h9 : O.length + 1 ≤ most.toNat := by omega
       exact h9
     case measure => simp [Go.RowKit.intOf]; omega
   ·have d1 : decide ((O.length : Int) < most) = false := decide_eq_false hfull
    have hfin : R = O := by
     rw [← HR.out, ← hO]
     refine ge_full ?_
     rw [hO]
     have := HM.out
     omega
    have Hfin := Lib.hid hfin
    clear hfin hfull hO
    go_wp2_with fail
    go_ret
    refine ⟨.slice oa O.length oc, rfl, ?_, HF.out⟩
    rw [Hfin.out]
    exact own_low HE.out (show w.heap.size ≤ SB + 2 by have := HSB.out; omega)
  ·have hEt : E.take i = E := List.take_of_length_le (by rw [Hl.out]; omega)
   rw [hEt] at hO
   have hfin : R = O := by rw [← HR.out, hO]; exact List.take_of_length_le HM.out
   have Hfin := Lib.hid hfin
   clear hfin hEt hO
   go_wp2_with fail
   go_ret
   refine ⟨.slice oa O.length oc, rfl, ?_, HF.out⟩
   rw [Hfin.out]
   exact own_low HE.out (show w.heap.size ≤ SB + 2 by have := HSB.out; omega)
end Go.Proofs.YtmcgipilopfgoaaGreat

/-
  EvqTells: acts: taking all before a time.
-/
namespace Go.Proofs.YtmcgipilopfgoaaGreat
open Go Go.RowKit Go.ChangeMaps
attribute [local go_sem ↓] Go.wp_at_zero Go.wp_at_succ
attribute [local go_sem] Oper.semAt_some wide_fn wide_depth wide_fnR wide_depthR
attribute [local go_sem high] run_eql_ev run_neq_ev

set_option maxRecDepth 100000 in
set_option maxHeartbeats 4000000 in
theorem do_4 {w : World} {qb n T m rc lk lc : Nat} {E : List Ev} {ft : Nat → Prop} {ra la : Option Addr} {kd t : Int} {x : Ev} (h : QIs w qb n T E ft) (hT : T ≤ 1000000) (hr : RsK w n E ra rc ft) (hm : E.length = m) (hkd : 0 ≤ kd ∧ kd < 256)
  (hk : kd % 10 = 4) :
  Calls Tryz.prog 20 #[.pointer (some ⟨qb, 0, none⟩), .agg #[.int .i64 n, .slice ra m rc], actV kd x la lk lc t] w (DoPost n T w ft ra) := by
 have H := Lib.hid h
 have HR := Lib.hid hr
 have Hm := Lib.hid hm
 have hle := h.le
 have hmrc : m ≤ rc := by have := hr.2.1; rw [hm] at this; exact this
 have hm256 : m ≤ 256 := by omega
 unfold actV
 clear h hr hle hm
 go_enter Tryz.func20, Tryz.ntmps20
 go_wp2_with fail
 have hkt : kd.tmod 10 = 4 := by rw [Int.tmod_eq_emod_of_nonneg hkd.1]; exact hk
 clear hk
 obtain ⟨SB, hSB⟩ : ∃ B, w.heap.size = B := ⟨_, rfl⟩
 obtain ⟨W1, hW1⟩ : ∃ W, w.alloc (.cells #[.int .i64 n, .slice ra m rc] 50) = W := ⟨_, rfl⟩
 have hs1 : W1.heap[SB]? = some (.cells #[.int .i64 n, .slice ra m rc] 50 (0, 0)) := by rw [← hW1, ← hSB]; exact World.alloc_heap_new w _
 have f1 : Fr0 none' w W1 := by rw [← hW1]; exact (Fr0.refl _ _).alloc _
 have z1 : W1.heap.size = SB + 1 := by rw [← hW1, World.size_alloc, hSB]
 rw [hW1]
 try rw [hSB]
 obtain ⟨W2, hW2⟩ : ∃ W, W1.alloc (.cells #[.int .u8 kd, .int .i64 x.key.time, .int .i64 x.key.source, .int .i64 x.key.seq, .int .i64 x.to, .int .i64 x.value, .slice la lk lc, .int .i64 t] 32) = W := ⟨_, rfl⟩
 have f2 : Fr0 none' W1 W2 := by rw [← hW2]; exact (Fr0.refl _ _).alloc _
 have hx2 : W2.heap[SB + 1]? = some (.cells #[.int .u8 kd, .int .i64 x.key.time, .int .i64 x.key.source, .int .i64 x.key.seq, .int .i64 x.to, .int .i64 x.value, .slice la lk lc, .int .i64 t] 32 (0, 0)) := by rw [← hW2, ← z1]; exact World.alloc_heap_new W1 _
 have z2 : W2.heap.size = SB + 1 + 1 := by rw [← hW2, World.size_alloc, z1]
 rw [hW2]
 obtain ⟨W3, hW3⟩ : ∃ W, W2.alloc (.cells #[.int .i64 0, .slice none 0 0] 50) = W := ⟨_, rfl⟩
 have f3 : Fr0 none' W2 W3 := by rw [← hW3]; exact (Fr0.refl _ _).alloc _
 have HRB := Lib.hid (show W3.heap[SB + 1 + 1]? = some (.cells #[.int .i64 0, .slice none 0 0] 50 (0, 0)) by rw [← hW3, ← z2]; exact World.alloc_heap_new W2 _)
 have HA := Lib.hid ((f3.block (SB + 1) (Array.getElem?_eq_some_iff.1 hx2).1 id).trans hx2)
 have HS := Lib.hid (((f2.trans f3).block SB (Array.getElem?_eq_some_iff.1 hs1).1 id).trans hs1)
 have HF := Lib.hid ((f1.trans f2).trans f3)
 have HSB := Lib.hid hSB
 have z3 : W3.heap.size = SB + 1 + 1 + 1 := by rw [← hW3, World.size_alloc, z2]
 have Hz3 := Lib.hid z3
 rw [hW3]
 clear hW1 hSB hs1 f1 hW2 f2 f3 hW3 z1 z2 hx2 z3
 have HZ := Lib.hid (fun (W' : World) (hf : Fr0 none' W3 W') => (show W'.cell? ⟨SB + 1, 0, none⟩ = some (.int .u8 kd) ∧ W'.cell? ⟨SB + 1, 1, none⟩ = some (.int .i64 x.key.time) ∧ W'.cell? ⟨SB + 1, 2, none⟩ = some (.int .i64 x.key.source) ∧ W'.cell? ⟨SB + 1, 3, none⟩ = some (.int .i64 x.key.seq) ∧ W'.cell? ⟨SB + 1, 4, none⟩ = some (.int .i64 x.to) ∧ W'.cell? ⟨SB + 1, 5, none⟩ = some (.int .i64 x.value) ∧ W'.cell? ⟨SB + 1, 6, none⟩ = some (.slice la lk lc) ∧ W'.cell? ⟨SB + 1, 7, none⟩ = some (.int .i64 t) from by
  have h1 := (hf.block (SB + 1) (Array.getElem?_eq_some_iff.1 HA.out).1 id).trans HA.out
  refine ⟨?_, ?_, ?_, ?_, ?_, ?_, ?_, ?_⟩ <;> (rw [cells_in h1]; rfl)))
 refine wp_region_held_drew (S := fun W' => Fr0 none' W3 W') (by kernel_rfl) ((Fr0.refl _ W3).drew) (fun hHeld => ?_)
 refine tkn (i := 0) (v := .pointer (some ⟨SB + 1, 0, none⟩)) (fun W' hSW => ?_) ?_
 ·obtain ⟨a0, a1, a2, a3, a4, a5, a6, a7⟩ := HZ.out W' hSW
  first | (go_simp; done) | exact rfl | (go_simp; rfl) | (go_simp; omega)
 try simp only [pUt, pUn, sEt, sEz, sEs]
 refine tkn (i := 1) (v := .int .u8 kd) (fun W' hSW => ?_) ?_
 ·obtain ⟨a0, a1, a2, a3, a4, a5, a6, a7⟩ := HZ.out W' hSW
  first | (go_simp; done) | exact rfl | (go_simp; rfl) | (go_simp; omega)
 try simp only [pUt, pUn, sEt, sEz, sEs]
 refine tkn (i := 2) (v := .int .u8 4) (fun W' hSW => ?_) ?_
 ·obtain ⟨a0, a1, a2, a3, a4, a5, a6, a7⟩ := HZ.out W' hSW
  first | (go_simp; done) | exact rfl | (go_simp; rfl) | (go_simp; omega)
 try simp only [pUt, pUn, sEt, sEz, sEs]
 refine tkn (i := 3) (v := .pointer (some ⟨SB + 1, 1, none⟩)) (fun W' hSW => ?_) ?_
 ·obtain ⟨a0, a1, a2, a3, a4, a5, a6, a7⟩ := HZ.out W' hSW
  first | (go_simp; done) | exact rfl | (go_simp; rfl) | (go_simp; omega)
 try simp only [pUt, pUn, sEt, sEz, sEs]
 refine tkn (i := 4) (v := .pointer (some ⟨SB + 1, 1, none⟩)) (fun W' hSW => ?_) ?_
 ·obtain ⟨a0, a1, a2, a3, a4, a5, a6, a7⟩ := HZ.out W' hSW
  first | (go_simp; done) | exact rfl | (go_simp; rfl) | (go_simp; omega)
 try simp only [pUt, pUn, sEt, sEz, sEs]
 refine tkn (i := 5) (v := .agg #[.int .i64 x.key.time, .int .i64 x.key.source, .int .i64 x.key.seq]) (fun W' hSW => ?_) ?_
 ·obtain ⟨a0, a1, a2, a3, a4, a5, a6, a7⟩ := HZ.out W' hSW
  first | (go_simp; done) | exact rfl | (go_simp; rfl) | (go_simp; omega)
 try simp only [pUt, pUn, sEt, sEz, sEs]
 refine take_call (i := 6) rfl (by kernel_rfl) (by kernel_rfl) (fun K hK => ?_)
 go_simp
 rw [Hz3.out]
 obtain ⟨V1, hV1⟩ : ∃ W, W3.alloc (.cells #[.int .i64 0, .int .i64 0, .int .i64 0] 26) = W := ⟨_, rfl⟩
 have fV : Fr0 none' W3 V1 := by rw [← hV1]; exact (Fr0.refl _ _).alloc _
 have hk1 : V1.heap[SB + 1 + 1 + 1]? = some (.cells #[.int .i64 0, .int .i64 0, .int .i64 0] 26 (0, 0)) := by rw [← hV1, ← Hz3.out]; exact World.alloc_heap_new W3 _
 rw [hV1]
 refine hK.out _ _ fV.drew (fun hS => ?_)
 clear hK K hV1 hHeld
 try simp only [pUt, pUn, sEt, sEz, sEs]
 refine tkn (i := 7) (v := .int .u8 4) (fun W' hSW => ?_) ?_
 ·obtain ⟨a0, a1, a2, a3, a4, a5, a6, a7⟩ := HZ.out W' hSW
  first | (go_simp; done) | exact rfl | (go_simp; rfl) | (go_simp; omega)
 try simp only [pUt, pUn, sEt, sEz, sEs]
 refine take_call (i := 8) rfl (by kernel_rfl) (by kernel_rfl) (fun K hK => ?_)
 have t0 := thaw_in hk1 0
 have t1 := thaw_in hk1 1
 have t2 := thaw_in hk1 2
 have u0 := cells_in hk1 0
 have u1 := cells_in hk1 1
 have u2 := cells_in hk1 2
 simp at u0 u1 u2
 go_simp
 obtain ⟨V2, hV2⟩ : ∃ W, ((V1.setCell ⟨SB + 1 + 1 + 1, 0, none⟩ (.int .i64 x.key.time)).setCell ⟨SB + 1 + 1 + 1, 1, none⟩ (.int .i64 x.key.source)).setCell ⟨SB + 1 + 1 + 1, 2, none⟩ (.int .i64 x.key.seq) = W := ⟨_, rfl⟩
 have hg3 : SB + 1 + 1 + 1 < W3.heap.size → none' (SB + 1 + 1 + 1) := fun e => by have := Hz3.out; omega
 have fV2 : Fr0 none' W3 V2 := by rw [← hV2]; exact ((fV.setCell hg3 _).setCell hg3 _).setCell hg3 _
 have hk2 : V2.heap[SB + 1 + 1 + 1]? = some (.cells #[.int .i64 x.key.time, .int .i64 x.key.source, .int .i64 x.key.seq] 26 (0, 0)) := by rw [← hV2]; exact heap_set_cell (heap_set_cell (heap_set_cell hk1 _) _) _
 rw [hV2]
 refine hK.out _ _ fV2.drew (fun hS => ?_)
 clear hK K hV2 t0 t1 t2 u0 u1 u2 hg3 fV hk1
 try simp only [pUt, pUn, sEt, sEz, sEs]
 refine wpAnyH_done (by kernel_rfl) ?_ _
 obtain ⟨V, hV⟩ : ∃ W, V2.drew = W := ⟨_, rfl⟩
 have fV : Fr0 none' W3 V := by rw [← hV]; exact fV2.drew
 have HK := Lib.hid (show V.heap[SB + 1 + 1 + 1]? = some (.cells #[.int .i64 x.key.time, .int .i64 x.key.source, .int .i64 x.key.seq] 26 (0, 0)) by rw [← hV]; exact hk2)
 have HRB := Lib.hid ((fV.block (SB + 1 + 1) (Array.getElem?_eq_some_iff.1 HRB.out).1 id).trans HRB.out)
 have HA := Lib.hid ((fV.block (SB + 1) (Array.getElem?_eq_some_iff.1 HA.out).1 id).trans HA.out)
 have HS := Lib.hid ((fV.block SB (Array.getElem?_eq_some_iff.1 HS.out).1 id).trans HS.out)
 have HF := Lib.hid (HF.out.trans fV)
 rw [hV]
 clear hV hk2 fV2 fV HZ Hz3 hS
 clear hkt
 have a0 := cells_in HA.out 0
 have a1 := cells_in HA.out 1
 have a2 := cells_in HA.out 2
 have a3 := cells_in HA.out 3
 have a4 := cells_in HA.out 4
 have a5 := cells_in HA.out 5
 have a6 := cells_in HA.out 6
 have a7 := cells_in HA.out 7
 have s0 := cells_in HS.out 0
 have s1 := cells_in HS.out 1
 have k0 := cells_in HK.out 0
 have k1 := cells_in HK.out 1
 have k2 := cells_in HK.out 2
 simp at a0 a1 a2 a3 a4 a5 a6 a7 s0 s1 k0 k1 k2
 go_wp2_with fail
 have HKv := HK
 have Hft := Lib.hid (show ∀ k, ft k → k < SB from fun k hk => by have := H.out.lt k hk; have := HSB.out; omega)
 refine ((H.out.later HF.out).takeBefore t (by omega)).mono ?_
 rintro e w5 ⟨l, ft', rfl, hrow, hq5, hs5, hd5, hf5⟩
 obtain ⟨ga, gc, rfl, _, hge⟩ := EsIn.of_own hrow
 have HQ5 := Lib.hid hq5
 have HL := Lib.hid hge
 clear a0 a1 a2 a3 a4 a5 a6 a7 s0 s1 k0 k1 k2
 have HK := Lib.hid ((hf5.block (SB + 1 + 1 + 1) (Array.getElem?_eq_some_iff.1 HK.out).1 (fun h => by have := Hft.out _ h; omega)).trans HK.out)
 have HRB := Lib.hid ((hf5.block (SB + 1 + 1) (Array.getElem?_eq_some_iff.1 HRB.out).1 (fun h => by have := Hft.out _ h; omega)).trans HRB.out)
 have HA := Lib.hid ((hf5.block (SB + 1) (Array.getElem?_eq_some_iff.1 HA.out).1 (fun h => by have := Hft.out _ h; omega)).trans HA.out)
 have HS := Lib.hid ((hf5.block SB (Array.getElem?_eq_some_iff.1 HS.out).1 (fun h => by have := Hft.out _ h; omega)).trans HS.out)
 have F5 := Lib.hid (show Fr0 ft w w5 from (HF.out.mono (fun _ _ h => h.elim)).trans hf5)
 have HGR := Lib.hid (show ∀ k, ft' k → ft k ∨ w.heap.size ≤ k from fun k hk => (hs5 k hk).imp id (fun h => Nat.le_trans HF.out.size h))
 have HGV := Lib.hid hs5
 have HKv5 := Lib.hid (show SB + 1 + 1 + 1 < w5.heap.size from (Array.getElem?_eq_some_iff.1 HK.out).1)
 have HRE := Lib.hid (HR.out.1.fr0 F5.out (fun g o s e => (HR.out.2.2 g o s e).1))
 have hbl : (befE t E).length ≤ 256 := by
  have h1 : (befE t E).length ≤ E.length := List.length_filter_le _ _
  have := Hm.out
  omega
 clear hrow hq5 hs5 hd5 hf5 hge
 have a0 := cells_in HA.out 0
 have a1 := cells_in HA.out 1
 have a2 := cells_in HA.out 2
 have a3 := cells_in HA.out 3
 have a4 := cells_in HA.out 4
 have a5 := cells_in HA.out 5
 have a6 := cells_in HA.out 6
 have a7 := cells_in HA.out 7
 have s0 := cells_in HS.out 0
 have s1 := cells_in HS.out 1
 have k0 := cells_in HK.out 0
 have k1 := cells_in HK.out 1
 have k2 := cells_in HK.out 2
 simp at a0 a1 a2 a3 a4 a5 a6 a7 s0 s1 k0 k1 k2
 go_wp2_with fail
 refine (rTakeBefore_any (n : Int) E HRE.out Hm.out (by omega) t (cap := rc)).mono ?_
 rintro e w6 ⟨v, r6, rfl, hA, hr6, hf⟩
 obtain ⟨na, nc, rfl, hnc, hne, hnb⟩ := hA
 obtain ⟨wa, wc, rfl, _, hwe⟩ := EsIn.of_own hr6
 obtain ⟨E', hE'⟩ : ∃ E', aftE t E = E' := ⟨_, rfl⟩
 rw [hE'] at hnc hne HQ5 ⊢
 obtain ⟨nm, hnm⟩ : ∃ nm, E'.length = nm := ⟨_, rfl⟩
 rw [hnm] at hnc ⊢
 have Hnm := Lib.hid hnm
 have HNE := Lib.hid hne
 have HNB := Lib.hid hnb
 have HQ6 := Lib.hid (HQ5.out.later hf)
 have HL := Lib.hid (HL.out.later hf)
 have HW := Lib.hid hwe
 clear a0 a1 a2 a3 a4 a5 a6 a7 s0 s1 k0 k1 k2
 have HK := Lib.hid ((hf.block (SB + 1 + 1 + 1) (Array.getElem?_eq_some_iff.1 HK.out).1 id).trans HK.out)
 have HRB := Lib.hid ((hf.block (SB + 1 + 1) (Array.getElem?_eq_some_iff.1 HRB.out).1 id).trans HRB.out)
 have HA := Lib.hid ((hf.block (SB + 1) (Array.getElem?_eq_some_iff.1 HA.out).1 id).trans HA.out)
 have HS := Lib.hid ((hf.block SB (Array.getElem?_eq_some_iff.1 HS.out).1 id).trans HS.out)
 have F6 := Lib.hid (F5.out.trans (hf.mono (fun _ _ h => h.elim)))
 have HKo := HK
 clear hf hnm hne hnb hr6 hwe hE'
 go_wp2_with fail
 obtain ⟨NB, hNB⟩ : ∃ B, (w6).heap.size = B := ⟨_, rfl⟩
 obtain ⟨W7, hW7⟩ : ∃ W, (w6).alloc (.cells #[.int .i64 n, .slice na nm nc] 50) = W := ⟨_, rfl⟩
 have f7 : Fr0 none' (w6) W7 := by rw [← hW7]; exact (Fr0.refl _ _).alloc _
 have HN := Lib.hid (show W7.heap[NB]? = some (.cells #[.int .i64 n, .slice na nm nc] 50 (0, 0)) by rw [← hW7, ← hNB]; exact World.alloc_heap_new _ _)
 have HK := Lib.hid ((f7.block (SB + 1 + 1 + 1) (Array.getElem?_eq_some_iff.1 HK.out).1 id).trans HK.out)
 have HRB := Lib.hid ((f7.block (SB + 1 + 1) (Array.getElem?_eq_some_iff.1 HRB.out).1 id).trans HRB.out)
 have HA := Lib.hid ((f7.block (SB + 1) (Array.getElem?_eq_some_iff.1 HA.out).1 id).trans HA.out)
 have HS := Lib.hid ((f7.block SB (Array.getElem?_eq_some_iff.1 HS.out).1 id).trans HS.out)
 have HQ7 := Lib.hid (HQ6.out.later f7)
 have F7 := Lib.hid (F6.out.trans (f7.mono (fun _ _ h => h.elim)))
 have HNE := Lib.hid (HNE.out.later f7)
 have HNB := Lib.hid (show ∀ g o s, (na : Option Addr) = some ⟨g, o, s⟩ → (∃ o' s', ra = some ⟨g, o', s'⟩) ∨ (w5.heap.size ≤ g ∧ g < W7.heap.size) from fun g o s e => (HNB.out g o s e).imp id (fun h => ⟨h.1, Nat.lt_of_lt_of_le h.2 f7.size⟩))
 have HNr := Lib.hid (show SB + 1 + 1 ≠ NB ∧ SB + 1 ≠ NB ∧ SB ≠ NB by have h9 := (Array.getElem?_eq_some_iff.1 HK.out).1; rw [← hNB]; have h8 := (Array.getElem?_eq_some_iff.1 HKo.out).1; omega)
 have HN7 := Lib.hid f7
 rw [hW7]
 try rw [hNB]
 clear hW7 hNB f7
 have HY := Lib.hid (fun (W' : World) (hf : Fr0 (fun k => k = SB + 1 + 1) W7 W') => (show (W'.cell? ⟨SB, 0, none⟩ = some (.int .i64 n) ∧ W'.cell? ⟨SB, 1, none⟩ = some (.slice ra m rc)) ∧ (W'.cell? ⟨NB, 0, none⟩ = some (.int .i64 n) ∧ W'.cell? ⟨NB, 1, none⟩ = some (.slice na nm nc)) ∧ W'.cell? ⟨SB + 1, 0, none⟩ = some (.int .u8 kd) ∧ W'.cell? ⟨SB + 1, 1, none⟩ = some (.int .i64 x.key.time) ∧ W'.cell? ⟨SB + 1, 2, none⟩ = some (.int .i64 x.key.source) ∧ W'.cell? ⟨SB + 1, 3, none⟩ = some (.int .i64 x.key.seq) ∧ W'.cell? ⟨SB + 1, 4, none⟩ = some (.int .i64 x.to) ∧ W'.cell? ⟨SB + 1, 5, none⟩ = some (.int .i64 x.value) ∧ W'.cell? ⟨SB + 1, 6, none⟩ = some (.slice la lk lc) ∧ W'.cell? ⟨SB + 1, 7, none⟩ = some (.int .i64 t) from by
  have hn := HNr.out
  have h1 := (hf.block (SB + 1) (Array.getElem?_eq_some_iff.1 HA.out).1 (fun e => by omega)).trans HA.out
  have h2 := (hf.block SB (Array.getElem?_eq_some_iff.1 HS.out).1 (fun e => by omega)).trans HS.out
  have h3 := (hf.block NB (Array.getElem?_eq_some_iff.1 HN.out).1 (fun e => hn.1 e.symm)).trans HN.out
  refine ⟨⟨?_, ?_⟩, ⟨?_, ?_⟩, ?_, ?_, ?_, ?_, ?_, ?_, ?_, ?_⟩
  ·rw [cells_in h2]; rfl
  ·rw [cells_in h2]; rfl
  ·rw [cells_in h3]; rfl
  ·rw [cells_in h3]; rfl
  all_goals (rw [cells_in h1]; rfl)))
 have HL := Lib.hid (HL.out.later HN7.out)
 have HW := Lib.hid (HW.out.later HN7.out)
 have HEq := Lib.hid (fun (W : World) (hf : Fr0 none' W7 W) => sameEs_any ga wa _ _ gc wc (befE t E) (befE t E) W rfl rfl (by omega) (by omega) (HL.out.later hf) (HW.out.later hf))
 rw [decide_eq_true rfl] at HEq
 refine wp_region_held_drew (S := fun W' => Fr0 (fun k => k = SB + 1 + 1) W7 W') (by kernel_rfl) ((Fr0.refl _ W7).drew) (fun hHeld => ?_)
 refine tkn (i := 0) (v := .pointer (some ⟨qb, 0, none⟩)) (fun W' hSW => ?_) ?_
 ·obtain ⟨⟨s0, s1⟩, ⟨n0, n1⟩, a0, a1, a2, a3, a4, a5, a6, a7⟩ := HY.out W' hSW
  first | (go_simp; done) | exact rfl | (go_simp; rfl) | (go_simp; omega)
 try simp only [pUt, pUn, sEt, sEz, sEs]
 refine tkn (i := 1) (v := .agg #[.int .i64 n, .slice na nm nc]) (fun W' hSW => ?_) ?_
 ·obtain ⟨⟨s0, s1⟩, ⟨n0, n1⟩, a0, a1, a2, a3, a4, a5, a6, a7⟩ := HY.out W' hSW
  first | (go_simp; done) | exact rfl | (go_simp; rfl) | (go_simp; omega)
 try simp only [pUt, pUn, sEt, sEz, sEs]
 refine tkn (i := 2) (v := .slice ga (befE t E).length gc) (fun W' hSW => ?_) ?_
 ·obtain ⟨⟨s0, s1⟩, ⟨n0, n1⟩, a0, a1, a2, a3, a4, a5, a6, a7⟩ := HY.out W' hSW
  first | (go_simp; done) | exact rfl | (go_simp; rfl) | (go_simp; omega)
 try simp only [pUt, pUn, sEt, sEz, sEs]
 refine tkn (i := 3) (v := .slice wa (befE t E).length wc) (fun W' hSW => ?_) ?_
 ·obtain ⟨⟨s0, s1⟩, ⟨n0, n1⟩, a0, a1, a2, a3, a4, a5, a6, a7⟩ := HY.out W' hSW
  first | (go_simp; done) | exact rfl | (go_simp; rfl) | (go_simp; omega)
 try simp only [pUt, pUn, sEt, sEz, sEs]
 refine take_call (i := 4) rfl (by kernel_rfl) (by kernel_rfl) (fun K hK => ?_)
 go_simp
 refine (HEq.out _ ((Fr0.refl none' W7).drew)).mono ?_
 rintro e w9 ⟨rfl, hf⟩
 have h9 : Fr0 none' W7 w9 := ((Fr0.refl none' W7).drew).trans hf
 clear hf
 go_wp2_with fail
 refine hK.out _ _ (h9.mono (fun _ _ h => h.elim)) (fun hS => ?_)
 clear hK K
 try simp only [pUt, pUn, sEt, sEz, sEs]
 clear hHeld
 have hHeld : Fr0 (fun k => k = SB + 1 + 1) W7 w9 := h9.mono (fun _ _ h => h.elim)
 refine tkn (i := 5) (v := .pointer (some ⟨qb, 0, none⟩)) (fun W' hSW => ?_) ?_
 ·obtain ⟨⟨s0, s1⟩, ⟨n0, n1⟩, a0, a1, a2, a3, a4, a5, a6, a7⟩ := HY.out W' hSW
  first | (go_simp; done) | exact rfl | (go_simp; rfl) | (go_simp; omega)
 try simp only [pUt, pUn, sEt, sEz, sEs]
 have HK := Lib.hid ((h9.block (SB + 1 + 1 + 1) (Array.getElem?_eq_some_iff.1 HK.out).1 id).trans HK.out)
 have HRB := Lib.hid ((h9.block (SB + 1 + 1) (Array.getElem?_eq_some_iff.1 HRB.out).1 id).trans HRB.out)
 have HA := Lib.hid ((h9.block (SB + 1) (Array.getElem?_eq_some_iff.1 HA.out).1 id).trans HA.out)
 have HS := Lib.hid ((h9.block SB (Array.getElem?_eq_some_iff.1 HS.out).1 id).trans HS.out)
 have t0 := thaw_in HRB.out 0
 have t1 := thaw_in HRB.out 1
 have u0 := cells_in HRB.out 0
 have u1 := cells_in HRB.out 1
 simp at u0 u1
 refine take_call (i := 6) rfl (by kernel_rfl) (by kernel_rfl) (fun K hK => ?_)
 go_simp
 obtain ⟨W9, hW9⟩ : ∃ W, ((w9).setCell ⟨SB + 1 + 1, 0, none⟩ (.int .i64 n)).setCell ⟨SB + 1 + 1, 1, none⟩ (.slice na nm nc) = W := ⟨_, rfl⟩
 have f9 : Fr0 (fun k => k = SB + 1 + 1) (w9) W9 := by rw [← hW9]; exact ((Fr0.refl (fun k => k = SB + 1 + 1) (w9)).setCell (fun _ => rfl) _).setCell (fun _ => rfl) _
 have hb9 : W9.heap[SB + 1 + 1]? = some (.cells #[.int .i64 n, .slice na nm nc] 50 (0, 0)) := by rw [← hW9]; exact heap_set_cell (heap_set_cell HRB.out _) _
 rw [hW9]
 refine hK.out _ _ (hHeld.trans f9) (fun hS => ?_)
 clear hK K hW9 t0 t1 u0 u1
 try simp only [pUt, pUn, sEt, sEz, sEs]
 refine tkn (i := 7) (v := .bool true) (fun W' hSW => ?_) ?_
 ·obtain ⟨⟨s0, s1⟩, ⟨n0, n1⟩, a0, a1, a2, a3, a4, a5, a6, a7⟩ := HY.out W' hSW
  first | (go_simp; done) | exact rfl | (go_simp; rfl) | (go_simp; omega)
 try simp only [pUt, pUn, sEt, sEz, sEs]
 refine wpAnyH_done (by kernel_rfl) ?_ _
 have f79 : Fr0 (fun k => k = SB + 1 + 1) W7 W9 := hHeld.trans f9
 have r0 := cells_in hb9 0
 have r1 := cells_in hb9 1
 simp at r0 r1
 have HQ9 := Lib.hid (HQ7.out.fr0 f79 (fun k hk e => by
  subst e
  rcases HGV.out _ hk with hk | hk
  ·have := Hft.out _ hk; omega
  ·have := (Array.getElem?_eq_some_iff.1 HKv.out).1; omega))
 have F79 := Lib.hid f79
 clear f79 f9 hHeld hS HY
 go_wp2_with fail
 have hgr := HGR.out
 have hlt5 := HQ5.out.lt
 have hcr := HR.out.2.2
 have hcase : ∀ g o s, (na : Option Addr) = some ⟨g, o, s⟩ → g < (W9).heap.size ∧ g ≠ SB + 1 + 1 ∧ ¬ (ft') g := fun g o s e => by
  have h2 := F79.out.size
  rcases HNB.out g o s e with ⟨o', s', e'⟩ | h1
  ·obtain ⟨h3, h4⟩ := hcr g o' s' e'
   have := HSB.out
   have := F7.out.size
   refine ⟨by omega, by omega, fun hk => ?_⟩
   rcases hgr g hk with h5 | h5
   ·exact h3 h5
   ·omega
  ·have := HKv5.out
   refine ⟨by omega, by omega, fun hk => ?_⟩
   have := hlt5 g hk
   omega
 refine bodyPost_ret (v := .tuple #[.pointer (some ⟨qb, 0, none⟩), .agg #[.int .i64 n, .slice na nm nc], .bool true]) (by simp [results, Tryz.results20, go_sem, r0, r1]) rfl ⟨qb, T, E', ft', na, nc, by rw [Hnm.out], HQ9.out, by omega, hgr, ⟨HNE.out.fr0 F79.out (fun g o s e => (hcase g o s e).2.1), by rw [Hnm.out]; exact hnc, fun g o s e => ⟨(hcase g o s e).2.2, (hcase g o s e).1⟩⟩, F7.out.trans' F79.out (fun k hk e => by have := HSB.out; omega), fun g o s e => (HNB.out g o s e).imp id (fun h => by have := HSB.out; have := HKv5.out; omega)⟩
end Go.Proofs.YtmcgipilopfgoaaGreat

/-
  EvqTells: acts: clearing, going on with a copy.
-/
namespace Go.Proofs.YtmcgipilopfgoaaGreat
open Go Go.RowKit Go.ChangeMaps
attribute [local go_sem ↓] Go.wp_at_zero Go.wp_at_succ
attribute [local go_sem] Oper.semAt_some wide_fn wide_depth wide_fnR wide_depthR
attribute [local go_sem high] run_eql_ev run_neq_ev

set_option maxRecDepth 100000 in
set_option maxHeartbeats 4000000 in
theorem do_9c {w : World} {qb n T m rc lk lc : Nat} {E : List Ev} {ft : Nat → Prop} {ra la : Option Addr} {kd t : Int} {x : Ev} (h : QIs w qb n T E ft) (hT : T ≤ 1000000) (hr : RsK w n E ra rc ft) (hm : E.length = m) (hkd : 0 ≤ kd ∧ kd < 256)
  (hk : kd % 10 = 9) (ht : t = 0) :
  Calls Tryz.prog 20 #[.pointer (some ⟨qb, 0, none⟩), .agg #[.int .i64 n, .slice ra m rc], actV kd x la lk lc t] w (DoPost n T w ft ra) := by
 have H := Lib.hid h
 have HR := Lib.hid hr
 have Hm := Lib.hid hm
 have hle := h.le
 have hmrc : m ≤ rc := by have := hr.2.1; rw [hm] at this; exact this
 have hm256 : m ≤ 256 := by omega
 have Ht := Lib.hid ht
 clear ht
 unfold actV
 clear h hr hle hm
 go_enter Tryz.func20, Tryz.ntmps20
 go_wp2_with fail
 have hkt : kd.tmod 10 = 9 := by rw [Int.tmod_eq_emod_of_nonneg hkd.1]; exact hk
 clear hk
 obtain ⟨SB, hSB⟩ : ∃ B, w.heap.size = B := ⟨_, rfl⟩
 obtain ⟨W1, hW1⟩ : ∃ W, w.alloc (.cells #[.int .i64 n, .slice ra m rc] 50) = W := ⟨_, rfl⟩
 have hs1 : W1.heap[SB]? = some (.cells #[.int .i64 n, .slice ra m rc] 50 (0, 0)) := by rw [← hW1, ← hSB]; exact World.alloc_heap_new w _
 have f1 : Fr0 none' w W1 := by rw [← hW1]; exact (Fr0.refl _ _).alloc _
 have z1 : W1.heap.size = SB + 1 := by rw [← hW1, World.size_alloc, hSB]
 rw [hW1]
 try rw [hSB]
 obtain ⟨W2, hW2⟩ : ∃ W, W1.alloc (.cells #[.int .u8 kd, .int .i64 x.key.time, .int .i64 x.key.source, .int .i64 x.key.seq, .int .i64 x.to, .int .i64 x.value, .slice la lk lc, .int .i64 t] 32) = W := ⟨_, rfl⟩
 have f2 : Fr0 none' W1 W2 := by rw [← hW2]; exact (Fr0.refl _ _).alloc _
 have hx2 : W2.heap[SB + 1]? = some (.cells #[.int .u8 kd, .int .i64 x.key.time, .int .i64 x.key.source, .int .i64 x.key.seq, .int .i64 x.to, .int .i64 x.value, .slice la lk lc, .int .i64 t] 32 (0, 0)) := by rw [← hW2, ← z1]; exact World.alloc_heap_new W1 _
 have z2 : W2.heap.size = SB + 1 + 1 := by rw [← hW2, World.size_alloc, z1]
 rw [hW2]
 obtain ⟨W3, hW3⟩ : ∃ W, W2.alloc (.cells #[.int .i64 0, .slice none 0 0] 50) = W := ⟨_, rfl⟩
 have f3 : Fr0 none' W2 W3 := by rw [← hW3]; exact (Fr0.refl _ _).alloc _
 have HRB := Lib.hid (show W3.heap[SB + 1 + 1]? = some (.cells #[.int .i64 0, .slice none 0 0] 50 (0, 0)) by rw [← hW3, ← z2]; exact World.alloc_heap_new W2 _)
 have HA := Lib.hid ((f3.block (SB + 1) (Array.getElem?_eq_some_iff.1 hx2).1 id).trans hx2)
 have HS := Lib.hid (((f2.trans f3).block SB (Array.getElem?_eq_some_iff.1 hs1).1 id).trans hs1)
 have HF := Lib.hid ((f1.trans f2).trans f3)
 have HSB := Lib.hid hSB
 have z3 : W3.heap.size = SB + 1 + 1 + 1 := by rw [← hW3, World.size_alloc, z2]
 have Hz3 := Lib.hid z3
 rw [hW3]
 clear hW1 hSB hs1 f1 hW2 f2 f3 hW3 z1 z2 hx2 z3
 have HZ := Lib.hid (fun (W' : World) (hf : Fr0 none' W3 W') => (show W'.cell? ⟨SB + 1, 0, none⟩ = some (.int .u8 kd) ∧ W'.cell? ⟨SB + 1, 1, none⟩ = some (.int .i64 x.key.time) ∧ W'.cell? ⟨SB + 1, 2, none⟩ = some (.int .i64 x.key.source) ∧ W'.cell? ⟨SB + 1, 3, none⟩ = some (.int .i64 x.key.seq) ∧ W'.cell? ⟨SB + 1, 4, none⟩ = some (.int .i64 x.to) ∧ W'.cell? ⟨SB + 1, 5, none⟩ = some (.int .i64 x.value) ∧ W'.cell? ⟨SB + 1, 6, none⟩ = some (.slice la lk lc) ∧ W'.cell? ⟨SB + 1, 7, none⟩ = some (.int .i64 t) from by
  have h1 := (hf.block (SB + 1) (Array.getElem?_eq_some_iff.1 HA.out).1 id).trans HA.out
  refine ⟨?_, ?_, ?_, ?_, ?_, ?_, ?_, ?_⟩ <;> (rw [cells_in h1]; rfl)))
 refine wp_region_held_drew (S := fun W' => Fr0 none' W3 W') (by kernel_rfl) ((Fr0.refl _ W3).drew) (fun hHeld => ?_)
 refine tkn (i := 0) (v := .pointer (some ⟨SB + 1, 0, none⟩)) (fun W' hSW => ?_) ?_
 ·obtain ⟨a0, a1, a2, a3, a4, a5, a6, a7⟩ := HZ.out W' hSW
  first | (go_simp; done) | exact rfl | (go_simp; rfl) | (go_simp; omega)
 try simp only [pUt, pUn, sEt, sEz, sEs]
 refine tkn (i := 1) (v := .int .u8 kd) (fun W' hSW => ?_) ?_
 ·obtain ⟨a0, a1, a2, a3, a4, a5, a6, a7⟩ := HZ.out W' hSW
  first | (go_simp; done) | exact rfl | (go_simp; rfl) | (go_simp; omega)
 try simp only [pUt, pUn, sEt, sEz, sEs]
 refine tkn (i := 2) (v := .int .u8 9) (fun W' hSW => ?_) ?_
 ·obtain ⟨a0, a1, a2, a3, a4, a5, a6, a7⟩ := HZ.out W' hSW
  first | (go_simp; done) | exact rfl | (go_simp; rfl) | (go_simp; omega)
 try simp only [pUt, pUn, sEt, sEz, sEs]
 refine tkn (i := 3) (v := .pointer (some ⟨SB + 1, 1, none⟩)) (fun W' hSW => ?_) ?_
 ·obtain ⟨a0, a1, a2, a3, a4, a5, a6, a7⟩ := HZ.out W' hSW
  first | (go_simp; done) | exact rfl | (go_simp; rfl) | (go_simp; omega)
 try simp only [pUt, pUn, sEt, sEz, sEs]
 refine tkn (i := 4) (v := .pointer (some ⟨SB + 1, 1, none⟩)) (fun W' hSW => ?_) ?_
 ·obtain ⟨a0, a1, a2, a3, a4, a5, a6, a7⟩ := HZ.out W' hSW
  first | (go_simp; done) | exact rfl | (go_simp; rfl) | (go_simp; omega)
 try simp only [pUt, pUn, sEt, sEz, sEs]
 refine tkn (i := 5) (v := .agg #[.int .i64 x.key.time, .int .i64 x.key.source, .int .i64 x.key.seq]) (fun W' hSW => ?_) ?_
 ·obtain ⟨a0, a1, a2, a3, a4, a5, a6, a7⟩ := HZ.out W' hSW
  first | (go_simp; done) | exact rfl | (go_simp; rfl) | (go_simp; omega)
 try simp only [pUt, pUn, sEt, sEz, sEs]
 refine take_call (i := 6) rfl (by kernel_rfl) (by kernel_rfl) (fun K hK => ?_)
 go_simp
 rw [Hz3.out]
 obtain ⟨V1, hV1⟩ : ∃ W, W3.alloc (.cells #[.int .i64 0, .int .i64 0, .int .i64 0] 26) = W := ⟨_, rfl⟩
 have fV : Fr0 none' W3 V1 := by rw [← hV1]; exact (Fr0.refl _ _).alloc _
 have hk1 : V1.heap[SB + 1 + 1 + 1]? = some (.cells #[.int .i64 0, .int .i64 0, .int .i64 0] 26 (0, 0)) := by rw [← hV1, ← Hz3.out]; exact World.alloc_heap_new W3 _
 rw [hV1]
 refine hK.out _ _ fV.drew (fun hS => ?_)
 clear hK K hV1 hHeld
 try simp only [pUt, pUn, sEt, sEz, sEs]
 refine tkn (i := 7) (v := .int .u8 9) (fun W' hSW => ?_) ?_
 ·obtain ⟨a0, a1, a2, a3, a4, a5, a6, a7⟩ := HZ.out W' hSW
  first | (go_simp; done) | exact rfl | (go_simp; rfl) | (go_simp; omega)
 try simp only [pUt, pUn, sEt, sEz, sEs]
 refine take_call (i := 8) rfl (by kernel_rfl) (by kernel_rfl) (fun K hK => ?_)
 have t0 := thaw_in hk1 0
 have t1 := thaw_in hk1 1
 have t2 := thaw_in hk1 2
 have u0 := cells_in hk1 0
 have u1 := cells_in hk1 1
 have u2 := cells_in hk1 2
 simp at u0 u1 u2
 go_simp
 obtain ⟨V2, hV2⟩ : ∃ W, ((V1.setCell ⟨SB + 1 + 1 + 1, 0, none⟩ (.int .i64 x.key.time)).setCell ⟨SB + 1 + 1 + 1, 1, none⟩ (.int .i64 x.key.source)).setCell ⟨SB + 1 + 1 + 1, 2, none⟩ (.int .i64 x.key.seq) = W := ⟨_, rfl⟩
 have hg3 : SB + 1 + 1 + 1 < W3.heap.size → none' (SB + 1 + 1 + 1) := fun e => by have := Hz3.out; omega
 have fV2 : Fr0 none' W3 V2 := by rw [← hV2]; exact ((fV.setCell hg3 _).setCell hg3 _).setCell hg3 _
 have hk2 : V2.heap[SB + 1 + 1 + 1]? = some (.cells #[.int .i64 x.key.time, .int .i64 x.key.source, .int .i64 x.key.seq] 26 (0, 0)) := by rw [← hV2]; exact heap_set_cell (heap_set_cell (heap_set_cell hk1 _) _) _
 rw [hV2]
 refine hK.out _ _ fV2.drew (fun hS => ?_)
 clear hK K hV2 t0 t1 t2 u0 u1 u2 hg3 fV hk1
 try simp only [pUt, pUn, sEt, sEz, sEs]
 refine wpAnyH_done (by kernel_rfl) ?_ _
 obtain ⟨V, hV⟩ : ∃ W, V2.drew = W := ⟨_, rfl⟩
 have fV : Fr0 none' W3 V := by rw [← hV]; exact fV2.drew
 have HK := Lib.hid (show V.heap[SB + 1 + 1 + 1]? = some (.cells #[.int .i64 x.key.time, .int .i64 x.key.source, .int .i64 x.key.seq] 26 (0, 0)) by rw [← hV]; exact hk2)
 have HRB := Lib.hid ((fV.block (SB + 1 + 1) (Array.getElem?_eq_some_iff.1 HRB.out).1 id).trans HRB.out)
 have HA := Lib.hid ((fV.block (SB + 1) (Array.getElem?_eq_some_iff.1 HA.out).1 id).trans HA.out)
 have HS := Lib.hid ((fV.block SB (Array.getElem?_eq_some_iff.1 HS.out).1 id).trans HS.out)
 have HF := Lib.hid (HF.out.trans fV)
 rw [hV]
 clear hV hk2 fV2 fV HZ Hz3 hS
 clear hkt
 have d9 : (t == 0) = true := by rw [Ht.out]; rfl
 have a0 := cells_in HA.out 0
 have a1 := cells_in HA.out 1
 have a2 := cells_in HA.out 2
 have a3 := cells_in HA.out 3
 have a4 := cells_in HA.out 4
 have a5 := cells_in HA.out 5
 have a6 := cells_in HA.out 6
 have a7 := cells_in HA.out 7
 have s0 := cells_in HS.out 0
 have s1 := cells_in HS.out 1
 have k0 := cells_in HK.out 0
 have k1 := cells_in HK.out 1
 have k2 := cells_in HK.out 2
 simp at a0 a1 a2 a3 a4 a5 a6 a7 s0 s1 k0 k1 k2
 go_wp2_with fail
 have HKv := HK
 have Hft := Lib.hid (show ∀ k, ft k → k < SB from fun k hk => by have := H.out.lt k hk; have := HSB.out; omega)
 have HC := (H.out.later HF.out).clear (by omega)
 rw [Hm.out] at HC
 refine HC.mono ?_
 rintro e w5 ⟨rfl, hq5, hf5⟩
 have HQ5 := Lib.hid hq5
 clear a0 a1 a2 a3 a4 a5 a6 a7 s0 s1 k0 k1 k2
 have HK := Lib.hid ((hf5.block (SB + 1 + 1 + 1) (Array.getElem?_eq_some_iff.1 HK.out).1 (fun h => by have := Hft.out _ h; omega)).trans HK.out)
 have HRB := Lib.hid ((hf5.block (SB + 1 + 1) (Array.getElem?_eq_some_iff.1 HRB.out).1 (fun h => by have := Hft.out _ h; omega)).trans HRB.out)
 have HA := Lib.hid ((hf5.block (SB + 1) (Array.getElem?_eq_some_iff.1 HA.out).1 (fun h => by have := Hft.out _ h; omega)).trans HA.out)
 have HS := Lib.hid ((hf5.block SB (Array.getElem?_eq_some_iff.1 HS.out).1 (fun h => by have := Hft.out _ h; omega)).trans HS.out)
 have F5 := Lib.hid (show Fr0 ft w w5 from (HF.out.mono (fun _ _ h => h.elim)).trans hf5)
 have HGR := Lib.hid (show ∀ k, qgrow ft V w5 k → ft k ∨ w.heap.size ≤ k from fun k hk => hk.imp id (fun h => Nat.le_trans HF.out.size h.1))
 clear HC hq5 hf5 d9
 go_wp2_with fail
 have HY := Lib.hid (fun (W' : World) (hf : Fr0 (fun k => k = SB + 1 + 1) w5 W') => (show W'.cell? ⟨SB, 0, none⟩ = some (.int .i64 n) ∧ W'.cell? ⟨SB, 1, none⟩ = some (.slice ra m rc) from by
  have h2 := (hf.block SB (Array.getElem?_eq_some_iff.1 HS.out).1 (fun e => by omega)).trans HS.out
  exact ⟨by rw [cells_in h2]; rfl, by rw [cells_in h2]; rfl⟩))
 refine wp_region_held_drew (S := fun W' => Fr0 (fun k => k = SB + 1 + 1) w5 W') (by kernel_rfl) ((Fr0.refl _ w5).drew) (fun hHeld => ?_)
 refine tkn (i := 0) (v := .pointer (some ⟨qb, 0, none⟩)) (fun W' hSW => ?_) ?_
 ·obtain ⟨s0, s1⟩ := HY.out W' hSW
  first | (go_simp; done) | exact rfl | (go_simp; rfl) | (go_simp; omega)
 try simp only [pUt, pUn, sEt, sEz, sEs]
 refine tkn (i := 1) (v := .pointer (some ⟨SB, 0, none⟩)) (fun W' hSW => ?_) ?_
 ·obtain ⟨s0, s1⟩ := HY.out W' hSW
  first | (go_simp; done) | exact rfl | (go_simp; rfl) | (go_simp; omega)
 try simp only [pUt, pUn, sEt, sEz, sEs]
 refine tkn (i := 2) (v := .int .i64 n) (fun W' hSW => ?_) ?_
 ·obtain ⟨s0, s1⟩ := HY.out W' hSW
  first | (go_simp; done) | exact rfl | (go_simp; rfl) | (go_simp; omega)
 try simp only [pUt, pUn, sEt, sEz, sEs]
 refine tkn (i := 3) (v := .agg #[.int .i64 n, .slice none 0 0]) (fun W' hSW => ?_) ?_
 ·obtain ⟨s0, s1⟩ := HY.out W' hSW
  first | (go_simp; done) | exact rfl | (go_simp; rfl) | (go_simp; omega)
 try simp only [pUt, pUn, sEt, sEz, sEs]
 refine tkn (i := 4) (v := .int .i64 m) (fun W' hSW => ?_) ?_
 ·obtain ⟨s0, s1⟩ := HY.out W' hSW
  first | (go_simp; done) | exact rfl | (go_simp; rfl) | (go_simp; omega)
 try simp only [pUt, pUn, sEt, sEz, sEs]
 refine tkn (i := 5) (v := .pointer (some ⟨SB, 1, none⟩)) (fun W' hSW => ?_) ?_
 ·obtain ⟨s0, s1⟩ := HY.out W' hSW
  first | (go_simp; done) | exact rfl | (go_simp; rfl) | (go_simp; omega)
 try simp only [pUt, pUn, sEt, sEz, sEs]
 refine tkn (i := 6) (v := .slice ra m rc) (fun W' hSW => ?_) ?_
 ·obtain ⟨s0, s1⟩ := HY.out W' hSW
  first | (go_simp; done) | exact rfl | (go_simp; rfl) | (go_simp; omega)
 try simp only [pUt, pUn, sEt, sEz, sEs]
 refine tkn (i := 7) (v := .int .i64 m) (fun W' hSW => ?_) ?_
 ·obtain ⟨s0, s1⟩ := HY.out W' hSW
  first | (go_simp; done) | exact rfl | (go_simp; rfl) | (go_simp; omega)
 try simp only [pUt, pUn, sEt, sEz, sEs]
 refine tkn (i := 8) (v := .bool true) (fun W' hSW => ?_) ?_
 ·obtain ⟨s0, s1⟩ := HY.out W' hSW
  first | (go_simp; done) | exact rfl | (go_simp; rfl) | (go_simp; omega)
 try simp only [pUt, pUn, sEt, sEz, sEs]
 refine tkn (i := 9) (v := .bool true) (fun W' hSW => ?_) ?_
 ·obtain ⟨s0, s1⟩ := HY.out W' hSW
  first | (go_simp; done) | exact rfl | (go_simp; rfl) | (go_simp; omega)
 try simp only [pUt, pUn, sEt, sEz, sEs]
 refine tkn (i := 10) (v := .int .i64 0) (fun W' hSW => ?_) ?_
 ·obtain ⟨s0, s1⟩ := HY.out W' hSW
  first | (go_simp; done) | exact rfl | (go_simp; rfl) | (go_simp; omega)
 try simp only [pUt, pUn, sEt, sEz, sEs]
 refine tkn (i := 11) (v := .bool true) (fun W' hSW => ?_) ?_
 ·obtain ⟨s0, s1⟩ := HY.out W' hSW
  first | (go_simp; done) | exact rfl | (go_simp; rfl) | (go_simp; omega)
 try simp only [pUt, pUn, sEt, sEz, sEs]
 refine tkn (i := 12) (v := .bool true) (fun W' hSW => ?_) ?_
 ·obtain ⟨s0, s1⟩ := HY.out W' hSW
  first | (go_simp; done) | exact rfl | (go_simp; rfl) | (go_simp; omega)
 try simp only [pUt, pUn, sEt, sEz, sEs]
 refine tkn (i := 13) (v := .pointer (some ⟨qb, 0, none⟩)) (fun W' hSW => ?_) ?_
 ·obtain ⟨s0, s1⟩ := HY.out W' hSW
  first | (go_simp; done) | exact rfl | (go_simp; rfl) | (go_simp; omega)
 try simp only [pUt, pUn, sEt, sEz, sEs]
 have t0 := thaw_in HRB.out 0
 have t1 := thaw_in HRB.out 1
 have u0 := cells_in HRB.out 0
 have u1 := cells_in HRB.out 1
 simp at u0 u1
 refine take_call (i := 14) rfl (by kernel_rfl) (by kernel_rfl) (fun K hK => ?_)
 go_simp
 obtain ⟨W9, hW9⟩ : ∃ W, ((w5).setCell ⟨SB + 1 + 1, 0, none⟩ (.int .i64 n)).setCell ⟨SB + 1 + 1, 1, none⟩ (.slice none 0 0) = W := ⟨_, rfl⟩
 have f9 : Fr0 (fun k => k = SB + 1 + 1) (w5) W9 := by rw [← hW9]; exact ((Fr0.refl (fun k => k = SB + 1 + 1) (w5)).setCell (fun _ => rfl) _).setCell (fun _ => rfl) _
 have hb9 : W9.heap[SB + 1 + 1]? = some (.cells #[.int .i64 n, .slice none 0 0] 50 (0, 0)) := by rw [← hW9]; exact heap_set_cell (heap_set_cell HRB.out _) _
 rw [hW9]
 refine hK.out _ _ f9.drew (fun hS => ?_)
 clear hK K hW9 t0 t1 u0 u1
 try simp only [pUt, pUn, sEt, sEz, sEs]
 refine tkn (i := 15) (v := .bool true) (fun W' hSW => ?_) ?_
 ·obtain ⟨s0, s1⟩ := HY.out W' hSW
  first | (go_simp; done) | exact rfl | (go_simp; rfl) | (go_simp; omega)
 try simp only [pUt, pUn, sEt, sEz, sEs]
 refine wpAnyH_done (by kernel_rfl) ?_ _
 obtain ⟨U9, hU⟩ : ∃ W, W9.drew = W := ⟨_, rfl⟩
 have hbU : U9.heap[SB + 1 + 1]? = some (.cells #[.int .i64 n, .slice none 0 0] 50 (0, 0)) := by rw [← hU]; exact hb9
 have f79 : Fr0 (fun k => k = SB + 1 + 1) w5 U9 := by rw [← hU]; exact f9.drew
 rw [hU]
 clear hb9 f9 hU hS hHeld HY
 have r0 := cells_in hbU 0
 have r1 := cells_in hbU 1
 simp at r0 r1
 have HQ9 := Lib.hid (HQ5.out.fr0 f79 (fun k hk e => by
  subst e
  rcases hk with hk | hk
  ·have := Hft.out _ hk; omega
  ·have := hk.1; have := (Array.getElem?_eq_some_iff.1 HKv.out).1; omega))
 have F79 := Lib.hid f79
 clear f79
 go_wp2_with fail
 refine bodyPost_ret (v := .tuple #[.pointer (some ⟨qb, 0, none⟩), .agg #[.int .i64 n, .slice none 0 0], .bool true]) (by simp [results, Tryz.results20, go_sem, r0, r1]) rfl ⟨qb, T, [], qgrow ft V w5, none, 0, rfl, HQ9.out, by omega, HGR.out, ⟨fun i y e => by simp at e, by simp, fun g o s e => by cases e⟩, F5.out.trans' F79.out (fun k hk e => by have := HSB.out; omega), fun g o s e => by cases e⟩
set_option maxRecDepth 100000 in
set_option maxHeartbeats 4000000 in
theorem do_8 {w : World} {qb n T m rc lk lc : Nat} {E : List Ev} {ft : Nat → Prop} {ra la : Option Addr} {kd t : Int} {x : Ev} (h : QIs w qb n T E ft) (hT : T ≤ 1000000) (hr : RsK w n E ra rc ft) (hm : E.length = m) (hkd : 0 ≤ kd ∧ kd < 256)
  (hk : kd % 10 = 8) :
  Calls Tryz.prog 20 #[.pointer (some ⟨qb, 0, none⟩), .agg #[.int .i64 n, .slice ra m rc], actV kd x la lk lc t] w (DoPost n T w ft ra) := by
 have H := Lib.hid h
 have HR := Lib.hid hr
 have Hm := Lib.hid hm
 have hle := h.le
 have hmrc : m ≤ rc := by have := hr.2.1; rw [hm] at this; exact this
 have hm256 : m ≤ 256 := by omega
 unfold actV
 clear h hr hle hm
 go_enter Tryz.func20, Tryz.ntmps20
 go_wp2_with fail
 have hkt : kd.tmod 10 = 8 := by rw [Int.tmod_eq_emod_of_nonneg hkd.1]; exact hk
 clear hk
 obtain ⟨SB, hSB⟩ : ∃ B, w.heap.size = B := ⟨_, rfl⟩
 obtain ⟨W1, hW1⟩ : ∃ W, w.alloc (.cells #[.int .i64 n, .slice ra m rc] 50) = W := ⟨_, rfl⟩
 have hs1 : W1.heap[SB]? = some (.cells #[.int .i64 n, .slice ra m rc] 50 (0, 0)) := by rw [← hW1, ← hSB]; exact World.alloc_heap_new w _
 have f1 : Fr0 none' w W1 := by rw [← hW1]; exact (Fr0.refl _ _).alloc _
 have z1 : W1.heap.size = SB + 1 := by rw [← hW1, World.size_alloc, hSB]
 rw [hW1]
 try rw [hSB]
 obtain ⟨W2, hW2⟩ : ∃ W, W1.alloc (.cells #[.int .u8 kd, .int .i64 x.key.time, .int .i64 x.key.source, .int .i64 x.key.seq, .int .i64 x.to, .int .i64 x.value, .slice la lk lc, .int .i64 t] 32) = W := ⟨_, rfl⟩
 have f2 : Fr0 none' W1 W2 := by rw [← hW2]; exact (Fr0.refl _ _).alloc _
 have hx2 : W2.heap[SB + 1]? = some (.cells #[.int .u8 kd, .int .i64 x.key.time, .int .i64 x.key.source, .int .i64 x.key.seq, .int .i64 x.to, .int .i64 x.value, .slice la lk lc, .int .i64 t] 32 (0, 0)) := by rw [← hW2, ← z1]; exact World.alloc_heap_new W1 _
 have z2 : W2.heap.size = SB + 1 + 1 := by rw [← hW2, World.size_alloc, z1]
 rw [hW2]
 obtain ⟨W3, hW3⟩ : ∃ W, W2.alloc (.cells #[.int .i64 0, .slice none 0 0] 50) = W := ⟨_, rfl⟩
 have f3 : Fr0 none' W2 W3 := by rw [← hW3]; exact (Fr0.refl _ _).alloc _
 have HRB := Lib.hid (show W3.heap[SB + 1 + 1]? = some (.cells #[.int .i64 0, .slice none 0 0] 50 (0, 0)) by rw [← hW3, ← z2]; exact World.alloc_heap_new W2 _)
 have HA := Lib.hid ((f3.block (SB + 1) (Array.getElem?_eq_some_iff.1 hx2).1 id).trans hx2)
 have HS := Lib.hid (((f2.trans f3).block SB (Array.getElem?_eq_some_iff.1 hs1).1 id).trans hs1)
 have HF := Lib.hid ((f1.trans f2).trans f3)
 have HSB := Lib.hid hSB
 have z3 : W3.heap.size = SB + 1 + 1 + 1 := by rw [← hW3, World.size_alloc, z2]
 have Hz3 := Lib.hid z3
 rw [hW3]
 clear hW1 hSB hs1 f1 hW2 f2 f3 hW3 z1 z2 hx2 z3
 have HZ := Lib.hid (fun (W' : World) (hf : Fr0 none' W3 W') => (show W'.cell? ⟨SB + 1, 0, none⟩ = some (.int .u8 kd) ∧ W'.cell? ⟨SB + 1, 1, none⟩ = some (.int .i64 x.key.time) ∧ W'.cell? ⟨SB + 1, 2, none⟩ = some (.int .i64 x.key.source) ∧ W'.cell? ⟨SB + 1, 3, none⟩ = some (.int .i64 x.key.seq) ∧ W'.cell? ⟨SB + 1, 4, none⟩ = some (.int .i64 x.to) ∧ W'.cell? ⟨SB + 1, 5, none⟩ = some (.int .i64 x.value) ∧ W'.cell? ⟨SB + 1, 6, none⟩ = some (.slice la lk lc) ∧ W'.cell? ⟨SB + 1, 7, none⟩ = some (.int .i64 t) from by
  have h1 := (hf.block (SB + 1) (Array.getElem?_eq_some_iff.1 HA.out).1 id).trans HA.out
  refine ⟨?_, ?_, ?_, ?_, ?_, ?_, ?_, ?_⟩ <;> (rw [cells_in h1]; rfl)))
 refine wp_region_held_drew (S := fun W' => Fr0 none' W3 W') (by kernel_rfl) ((Fr0.refl _ W3).drew) (fun hHeld => ?_)
 refine tkn (i := 0) (v := .pointer (some ⟨SB + 1, 0, none⟩)) (fun W' hSW => ?_) ?_
 ·obtain ⟨a0, a1, a2, a3, a4, a5, a6, a7⟩ := HZ.out W' hSW
  first | (go_simp; done) | exact rfl | (go_simp; rfl) | (go_simp; omega)
 try simp only [pUt, pUn, sEt, sEz, sEs]
 refine tkn (i := 1) (v := .int .u8 kd) (fun W' hSW => ?_) ?_
 ·obtain ⟨a0, a1, a2, a3, a4, a5, a6, a7⟩ := HZ.out W' hSW
  first | (go_simp; done) | exact rfl | (go_simp; rfl) | (go_simp; omega)
 try simp only [pUt, pUn, sEt, sEz, sEs]
 refine tkn (i := 2) (v := .int .u8 8) (fun W' hSW => ?_) ?_
 ·obtain ⟨a0, a1, a2, a3, a4, a5, a6, a7⟩ := HZ.out W' hSW
  first | (go_simp; done) | exact rfl | (go_simp; rfl) | (go_simp; omega)
 try simp only [pUt, pUn, sEt, sEz, sEs]
 refine tkn (i := 3) (v := .pointer (some ⟨SB + 1, 1, none⟩)) (fun W' hSW => ?_) ?_
 ·obtain ⟨a0, a1, a2, a3, a4, a5, a6, a7⟩ := HZ.out W' hSW
  first | (go_simp; done) | exact rfl | (go_simp; rfl) | (go_simp; omega)
 try simp only [pUt, pUn, sEt, sEz, sEs]
 refine tkn (i := 4) (v := .pointer (some ⟨SB + 1, 1, none⟩)) (fun W' hSW => ?_) ?_
 ·obtain ⟨a0, a1, a2, a3, a4, a5, a6, a7⟩ := HZ.out W' hSW
  first | (go_simp; done) | exact rfl | (go_simp; rfl) | (go_simp; omega)
 try simp only [pUt, pUn, sEt, sEz, sEs]
 refine tkn (i := 5) (v := .agg #[.int .i64 x.key.time, .int .i64 x.key.source, .int .i64 x.key.seq]) (fun W' hSW => ?_) ?_
 ·obtain ⟨a0, a1, a2, a3, a4, a5, a6, a7⟩ := HZ.out W' hSW
  first | (go_simp; done) | exact rfl | (go_simp; rfl) | (go_simp; omega)
 try simp only [pUt, pUn, sEt, sEz, sEs]
 refine take_call (i := 6) rfl (by kernel_rfl) (by kernel_rfl) (fun K hK => ?_)
 go_simp
 rw [Hz3.out]
 obtain ⟨V1, hV1⟩ : ∃ W, W3.alloc (.cells #[.int .i64 0, .int .i64 0, .int .i64 0] 26) = W := ⟨_, rfl⟩
 have fV : Fr0 none' W3 V1 := by rw [← hV1]; exact (Fr0.refl _ _).alloc _
 have hk1 : V1.heap[SB + 1 + 1 + 1]? = some (.cells #[.int .i64 0, .int .i64 0, .int .i64 0] 26 (0, 0)) := by rw [← hV1, ← Hz3.out]; exact World.alloc_heap_new W3 _
 rw [hV1]
 refine hK.out _ _ fV.drew (fun hS => ?_)
 clear hK K hV1 hHeld
 try simp only [pUt, pUn, sEt, sEz, sEs]
 refine tkn (i := 7) (v := .int .u8 8) (fun W' hSW => ?_) ?_
 ·obtain ⟨a0, a1, a2, a3, a4, a5, a6, a7⟩ := HZ.out W' hSW
  first | (go_simp; done) | exact rfl | (go_simp; rfl) | (go_simp; omega)
 try simp only [pUt, pUn, sEt, sEz, sEs]
 refine take_call (i := 8) rfl (by kernel_rfl) (by kernel_rfl) (fun K hK => ?_)
 have t0 := thaw_in hk1 0
 have t1 := thaw_in hk1 1
 have t2 := thaw_in hk1 2
 have u0 := cells_in hk1 0
 have u1 := cells_in hk1 1
 have u2 := cells_in hk1 2
 simp at u0 u1 u2
 go_simp
 obtain ⟨V2, hV2⟩ : ∃ W, ((V1.setCell ⟨SB + 1 + 1 + 1, 0, none⟩ (.int .i64 x.key.time)).setCell ⟨SB + 1 + 1 + 1, 1, none⟩ (.int .i64 x.key.source)).setCell ⟨SB + 1 + 1 + 1, 2, none⟩ (.int .i64 x.key.seq) = W := ⟨_, rfl⟩
 have hg3 : SB + 1 + 1 + 1 < W3.heap.size → none' (SB + 1 + 1 + 1) := fun e => by have := Hz3.out; omega
 have fV2 : Fr0 none' W3 V2 := by rw [← hV2]; exact ((fV.setCell hg3 _).setCell hg3 _).setCell hg3 _
 have hk2 : V2.heap[SB + 1 + 1 + 1]? = some (.cells #[.int .i64 x.key.time, .int .i64 x.key.source, .int .i64 x.key.seq] 26 (0, 0)) := by rw [← hV2]; exact heap_set_cell (heap_set_cell (heap_set_cell hk1 _) _) _
 rw [hV2]
 refine hK.out _ _ fV2.drew (fun hS => ?_)
 clear hK K hV2 t0 t1 t2 u0 u1 u2 hg3 fV hk1
 try simp only [pUt, pUn, sEt, sEz, sEs]
 refine wpAnyH_done (by kernel_rfl) ?_ _
 obtain ⟨V, hV⟩ : ∃ W, V2.drew = W := ⟨_, rfl⟩
 have fV : Fr0 none' W3 V := by rw [← hV]; exact fV2.drew
 have HK := Lib.hid (show V.heap[SB + 1 + 1 + 1]? = some (.cells #[.int .i64 x.key.time, .int .i64 x.key.source, .int .i64 x.key.seq] 26 (0, 0)) by rw [← hV]; exact hk2)
 have HRB := Lib.hid ((fV.block (SB + 1 + 1) (Array.getElem?_eq_some_iff.1 HRB.out).1 id).trans HRB.out)
 have HA := Lib.hid ((fV.block (SB + 1) (Array.getElem?_eq_some_iff.1 HA.out).1 id).trans HA.out)
 have HS := Lib.hid ((fV.block SB (Array.getElem?_eq_some_iff.1 HS.out).1 id).trans HS.out)
 have HF := Lib.hid (HF.out.trans fV)
 rw [hV]
 clear hV hk2 fV2 fV HZ Hz3 hS
 clear hkt
 have a0 := cells_in HA.out 0
 have a1 := cells_in HA.out 1
 have a2 := cells_in HA.out 2
 have a3 := cells_in HA.out 3
 have a4 := cells_in HA.out 4
 have a5 := cells_in HA.out 5
 have a6 := cells_in HA.out 6
 have a7 := cells_in HA.out 7
 have s0 := cells_in HS.out 0
 have s1 := cells_in HS.out 1
 have k0 := cells_in HK.out 0
 have k1 := cells_in HK.out 1
 have k2 := cells_in HK.out 2
 simp at a0 a1 a2 a3 a4 a5 a6 a7 s0 s1 k0 k1 k2
 go_wp2_with fail
 have HKv := HK
 have Hft := Lib.hid (show ∀ k, ft k → k < SB from fun k hk => by have := H.out.lt k hk; have := HSB.out; omega)
 have HFv := HF
 refine (H.out.later HF.out).copy.mono ?_
 rintro e w4 ⟨cb, fc, rfl, hqc, hgc, hf4⟩
 have HC4 := Lib.hid hqc
 have HGc := Lib.hid hgc
 have HK4 := Lib.hid (show SB + 1 + 1 + 1 < w4.heap.size from Nat.lt_of_lt_of_le (Array.getElem?_eq_some_iff.1 HK.out).1 hf4.size)
 clear a0 a1 a2 a3 a4 a5 a6 a7 s0 s1 k0 k1 k2
 have HK := Lib.hid ((hf4.block (SB + 1 + 1 + 1) (Array.getElem?_eq_some_iff.1 HK.out).1 id).trans HK.out)
 have HRB := Lib.hid ((hf4.block (SB + 1 + 1) (Array.getElem?_eq_some_iff.1 HRB.out).1 id).trans HRB.out)
 have HA := Lib.hid ((hf4.block (SB + 1) (Array.getElem?_eq_some_iff.1 HA.out).1 id).trans HA.out)
 have HS := Lib.hid ((hf4.block SB (Array.getElem?_eq_some_iff.1 HS.out).1 id).trans HS.out)
 have HF := Lib.hid (HF.out.trans hf4)
 have HV4 := Lib.hid (show w.heap.size ≤ V.heap.size from HFv.out.size)
 clear hqc hgc hf4
 go_wp2_with fail
 have HC := (H.out.later HF.out).clear (by omega)
 rw [Hm.out] at HC
 refine HC.mono ?_
 rintro e w5 ⟨rfl, hq5, hf5⟩
 have HK := Lib.hid ((hf5.block (SB + 1 + 1 + 1) (Array.getElem?_eq_some_iff.1 HK.out).1 (fun h => by have := Hft.out _ h; omega)).trans HK.out)
 have HRB := Lib.hid ((hf5.block (SB + 1 + 1) (Array.getElem?_eq_some_iff.1 HRB.out).1 (fun h => by have := Hft.out _ h; omega)).trans HRB.out)
 have HA := Lib.hid ((hf5.block (SB + 1) (Array.getElem?_eq_some_iff.1 HA.out).1 (fun h => by have := Hft.out _ h; omega)).trans HA.out)
 have HS := Lib.hid ((hf5.block SB (Array.getElem?_eq_some_iff.1 HS.out).1 (fun h => by have := Hft.out _ h; omega)).trans HS.out)
 have HC5 := Lib.hid (HC4.out.fr0 hf5 (fun k hk h => by have := HGc.out k hk; have := Hft.out k h; have := HV4.out; have := HSB.out; omega))
 have HQ5 := Lib.hid hq5
 have F5 := Lib.hid (show Fr0 ft w w5 from (HF.out.mono (fun _ _ h => h.elim)).trans hf5)
 clear HC hq5 hf5
 go_wp2_with fail
 have HY := Lib.hid (fun (W' : World) (hf : Fr0 (fun k => k = SB + 1 + 1) w5 W') => (show W'.cell? ⟨SB, 0, none⟩ = some (.int .i64 n) ∧ W'.cell? ⟨SB, 1, none⟩ = some (.slice ra m rc) from by
  have h2 := (hf.block SB (Array.getElem?_eq_some_iff.1 HS.out).1 (fun e => by omega)).trans HS.out
  exact ⟨by rw [cells_in h2]; rfl, by rw [cells_in h2]; rfl⟩))
 refine wp_region_held_drew (S := fun W' => Fr0 (fun k => k = SB + 1 + 1) w5 W') (by kernel_rfl) ((Fr0.refl _ w5).drew) (fun hHeld => ?_)
 refine tkn (i := 0) (v := .pointer (some ⟨cb, 0, none⟩)) (fun W' hSW => ?_) ?_
 ·obtain ⟨s0, s1⟩ := HY.out W' hSW
  first | (go_simp; done) | exact rfl | (go_simp; rfl) | (go_simp; omega)
 try simp only [pUt, pUn, sEt, sEz, sEs]
 refine tkn (i := 1) (v := .agg #[.int .i64 n, .slice ra m rc]) (fun W' hSW => ?_) ?_
 ·obtain ⟨s0, s1⟩ := HY.out W' hSW
  first | (go_simp; done) | exact rfl | (go_simp; rfl) | (go_simp; omega)
 try simp only [pUt, pUn, sEt, sEz, sEs]
 refine tkn (i := 2) (v := .pointer (some ⟨cb, 0, none⟩)) (fun W' hSW => ?_) ?_
 ·obtain ⟨s0, s1⟩ := HY.out W' hSW
  first | (go_simp; done) | exact rfl | (go_simp; rfl) | (go_simp; omega)
 try simp only [pUt, pUn, sEt, sEz, sEs]
 refine tkn (i := 3) (v := .bool true) (fun W' hSW => ?_) ?_
 ·obtain ⟨s0, s1⟩ := HY.out W' hSW
  first | (go_simp; done) | exact rfl | (go_simp; rfl) | (go_simp; omega)
 try simp only [pUt, pUn, sEt, sEz, sEs]
 refine tkn (i := 4) (v := .bool true) (fun W' hSW => ?_) ?_
 ·obtain ⟨s0, s1⟩ := HY.out W' hSW
  first | (go_simp; done) | exact rfl | (go_simp; rfl) | (go_simp; omega)
 try simp only [pUt, pUn, sEt, sEz, sEs]
 refine tkn (i := 5) (v := .int .i64 0) (fun W' hSW => ?_) ?_
 ·obtain ⟨s0, s1⟩ := HY.out W' hSW
  first | (go_simp; done) | exact rfl | (go_simp; rfl) | (go_simp; omega)
 try simp only [pUt, pUn, sEt, sEz, sEs]
 refine tkn (i := 6) (v := .int .i64 0) (fun W' hSW => ?_) ?_
 ·obtain ⟨s0, s1⟩ := HY.out W' hSW
  first | (go_simp; done) | exact rfl | (go_simp; rfl) | (go_simp; omega)
 try simp only [pUt, pUn, sEt, sEz, sEs]
 refine tkn (i := 7) (v := .int .i64 0) (fun W' hSW => ?_) ?_
 ·obtain ⟨s0, s1⟩ := HY.out W' hSW
  first | (go_simp; done) | exact rfl | (go_simp; rfl) | (go_simp; omega)
 try simp only [pUt, pUn, sEt, sEz, sEs]
 refine tkn (i := 8) (v := .bool true) (fun W' hSW => ?_) ?_
 ·obtain ⟨s0, s1⟩ := HY.out W' hSW
  first | (go_simp; done) | exact rfl | (go_simp; rfl) | (go_simp; omega)
 try simp only [pUt, pUn, sEt, sEz, sEs]
 refine tkn (i := 9) (v := .bool true) (fun W' hSW => ?_) ?_
 ·obtain ⟨s0, s1⟩ := HY.out W' hSW
  first | (go_simp; done) | exact rfl | (go_simp; rfl) | (go_simp; omega)
 try simp only [pUt, pUn, sEt, sEz, sEs]
 refine tkn (i := 10) (v := .bool true) (fun W' hSW => ?_) ?_
 ·obtain ⟨s0, s1⟩ := HY.out W' hSW
  first | (go_simp; done) | exact rfl | (go_simp; rfl) | (go_simp; omega)
 try simp only [pUt, pUn, sEt, sEz, sEs]
 refine tkn (i := 11) (v := .int .i64 m) (fun W' hSW => ?_) ?_
 ·obtain ⟨s0, s1⟩ := HY.out W' hSW
  first | (go_simp; done) | exact rfl | (go_simp; rfl) | (go_simp; omega)
 try simp only [pUt, pUn, sEt, sEz, sEs]
 refine tkn (i := 12) (v := .pointer (some ⟨SB, 1, none⟩)) (fun W' hSW => ?_) ?_
 ·obtain ⟨s0, s1⟩ := HY.out W' hSW
  first | (go_simp; done) | exact rfl | (go_simp; rfl) | (go_simp; omega)
 try simp only [pUt, pUn, sEt, sEz, sEs]
 refine tkn (i := 13) (v := .slice ra m rc) (fun W' hSW => ?_) ?_
 ·obtain ⟨s0, s1⟩ := HY.out W' hSW
  first | (go_simp; done) | exact rfl | (go_simp; rfl) | (go_simp; omega)
 try simp only [pUt, pUn, sEt, sEz, sEs]
 refine tkn (i := 14) (v := .int .i64 m) (fun W' hSW => ?_) ?_
 ·obtain ⟨s0, s1⟩ := HY.out W' hSW
  first | (go_simp; done) | exact rfl | (go_simp; rfl) | (go_simp; omega)
 try simp only [pUt, pUn, sEt, sEz, sEs]
 refine tkn (i := 15) (v := .bool true) (fun W' hSW => ?_) ?_
 ·obtain ⟨s0, s1⟩ := HY.out W' hSW
  first | (go_simp; done) | exact rfl | (go_simp; rfl) | (go_simp; omega)
 try simp only [pUt, pUn, sEt, sEz, sEs]
 refine tkn (i := 16) (v := .bool true) (fun W' hSW => ?_) ?_
 ·obtain ⟨s0, s1⟩ := HY.out W' hSW
  first | (go_simp; done) | exact rfl | (go_simp; rfl) | (go_simp; omega)
 try simp only [pUt, pUn, sEt, sEz, sEs]
 refine tkn (i := 17) (v := .bool true) (fun W' hSW => ?_) ?_
 ·obtain ⟨s0, s1⟩ := HY.out W' hSW
  first | (go_simp; done) | exact rfl | (go_simp; rfl) | (go_simp; omega)
 try simp only [pUt, pUn, sEt, sEz, sEs]
 have HL := Lib.hid (fun (W' : World) (hf : Fr0 (fun k => k = SB + 1 + 1) w5 W') => (HQ5.out.fr0 hf (fun k hk e => by
  subst e
  rcases hk with hk | hk
  ·have := Hft.out _ hk; omega
  ·have := hk.1; have := HK4.out; omega)).len)
 refine tkn (i := 18) (v := .pointer (some ⟨qb, 0, none⟩)) (fun W' hSW => ?_) ?_
 ·obtain ⟨s0, s1⟩ := HY.out W' hSW
  first | (go_simp; done) | exact rfl | (go_simp; rfl) | (go_simp; omega)
 try simp only [pUt, pUn, sEt, sEz, sEs]
 refine take_call (i := 19) rfl (by kernel_rfl) (by kernel_rfl) (fun K hK => ?_)
 go_simp
 refine (HL.out _ hHeld).mono ?_
 rintro e w8 ⟨rfl, rfl⟩
 go_wp2_with fail
 refine hK.out _ _ hHeld (fun hS => ?_)
 clear hK K
 try simp only [pUt, pUn, sEt, sEz, sEs]
 refine tkn (i := 20) (v := .bool true) (fun W' hSW => ?_) ?_
 ·obtain ⟨s0, s1⟩ := HY.out W' hSW
  first | (go_simp; done) | exact rfl | (go_simp; rfl) | (go_simp; omega)
 try simp only [pUt, pUn, sEt, sEz, sEs]
 refine tkn (i := 21) (v := .bool true) (fun W' hSW => ?_) ?_
 ·obtain ⟨s0, s1⟩ := HY.out W' hSW
  first | (go_simp; done) | exact rfl | (go_simp; rfl) | (go_simp; omega)
 try simp only [pUt, pUn, sEt, sEz, sEs]
 refine tkn (i := 22) (v := .pointer (some ⟨cb, 0, none⟩)) (fun W' hSW => ?_) ?_
 ·obtain ⟨s0, s1⟩ := HY.out W' hSW
  first | (go_simp; done) | exact rfl | (go_simp; rfl) | (go_simp; omega)
 try simp only [pUt, pUn, sEt, sEz, sEs]
 have t0 := thaw_in HRB.out 0
 have t1 := thaw_in HRB.out 1
 have u0 := cells_in HRB.out 0
 have u1 := cells_in HRB.out 1
 simp at u0 u1
 refine take_call (i := 23) rfl (by kernel_rfl) (by kernel_rfl) (fun K hK => ?_)
 go_simp
 obtain ⟨W9, hW9⟩ : ∃ W, ((w5).setCell ⟨SB + 1 + 1, 0, none⟩ (.int .i64 n)).setCell ⟨SB + 1 + 1, 1, none⟩ (.slice ra m rc) = W := ⟨_, rfl⟩
 have f9 : Fr0 (fun k => k = SB + 1 + 1) (w5) W9 := by rw [← hW9]; exact ((Fr0.refl (fun k => k = SB + 1 + 1) (w5)).setCell (fun _ => rfl) _).setCell (fun _ => rfl) _
 have hb9 : W9.heap[SB + 1 + 1]? = some (.cells #[.int .i64 n, .slice ra m rc] 50 (0, 0)) := by rw [← hW9]; exact heap_set_cell (heap_set_cell HRB.out _) _
 rw [hW9]
 refine hK.out _ _ f9.drew (fun hS => ?_)
 clear hK K hW9 t0 t1 u0 u1
 try simp only [pUt, pUn, sEt, sEz, sEs]
 refine tkn (i := 24) (v := .bool true) (fun W' hSW => ?_) ?_
 ·obtain ⟨s0, s1⟩ := HY.out W' hSW
  first | (go_simp; done) | exact rfl | (go_simp; rfl) | (go_simp; omega)
 try simp only [pUt, pUn, sEt, sEz, sEs]
 refine wpAnyH_done (by kernel_rfl) ?_ _
 obtain ⟨U9, hU⟩ : ∃ W, W9.drew = W := ⟨_, rfl⟩
 have hbU : U9.heap[SB + 1 + 1]? = some (.cells #[.int .i64 n, .slice ra m rc] 50 (0, 0)) := by rw [← hU]; exact hb9
 have f79 : Fr0 (fun k => k = SB + 1 + 1) w5 U9 := by rw [← hU]; exact f9.drew
 rw [hU]
 clear hb9 f9 hU hS hHeld HY
 have r0 := cells_in hbU 0
 have r1 := cells_in hbU 1
 simp at r0 r1
 have HQ9 := Lib.hid (HC5.out.fr0 f79 (fun k hk e => by have := HGc.out k hk; have := (Array.getElem?_eq_some_iff.1 HKv.out).1; omega))
 have F79 := Lib.hid f79
 have F9 := Lib.hid (show Fr0 ft w U9 from F5.out.trans' f79 (fun k hk e => by have := HSB.out; omega))
 clear f79 HL
 go_wp2_with fail
 have hel := Hm.out
 refine bodyPost_ret (v := .tuple #[.pointer (some ⟨cb, 0, none⟩), .agg #[.int .i64 n, .slice ra m rc], .bool true]) (by simp [results, Tryz.results20, go_sem, r0, r1]) rfl ⟨cb, E.length, E, fc, ra, rc, by rw [Hm.out], HQ9.out, by omega, fun k hk => Or.inr (by have := HGc.out k hk; have := HV4.out; omega), ⟨HR.out.1.fr0 F9.out (fun g o s e => (HR.out.2.2 g o s e).1), HR.out.2.1, fun g o s e => ⟨fun h => by have := HGc.out g h; have := HV4.out; have := (HR.out.2.2 g o s e).2; omega, by have := F9.out.size; have := (HR.out.2.2 g o s e).2; omega⟩⟩, F9.out, fun g o s e => .inl ⟨o, s, e⟩⟩
end Go.Proofs.YtmcgipilopfgoaaGreat

/-
  The reference of layer 10: Ready.
-/
namespace Go.Proofs.YtmcgipilopfgoaaGreat
open Go Go.RowKit
attribute [local go_sem ↓] Go.wp_at_zero Go.wp_at_succ
attribute [local go_sem] Oper.semAt_some wide_fn wide_depth wide_fnR wide_depthR

/-- Whether a process has an event before a time. -/
def hasE (t : Int) (E : List Ev) (p : Nat) : Bool := E.any (fun x => x.to == (p : Int) && decide (x.key.time < t))
/-- The processes below a number that have one. -/
def rdyE (t : Int) (E : List Ev) (k : Nat) : List Nat := (List.range' 1 (k - 1)).filter (hasE t E)
def natV' (p : Nat) : Value := .int .i64 (p : Int)
theorem rdy_snoc (t : Int) (E : List Ev) {k : Nat} (hk : 1 ≤ k) : rdyE t E (k + 1) = rdyE t E k ++ if hasE t E k then [k] else [] := by
 unfold rdyE
 have : k + 1 - 1 = (k - 1) + 1 := by omega
 rw [this, List.range'_1_concat, List.filter_append, show 1 + (k - 1) = k by omega]
 congr 1
 by_cases h : hasE t E k = true
 ·simp [h]
 ·simp [h]
theorem rdy_len (t : Int) (E : List Ev) (k : Nat) : (rdyE t E k).length ≤ k - 1 := by
 unfold rdyE
 refine Nat.le_trans (List.length_filter_le _ _) ?_
 simp
theorem has_true {t : Int} {E : List Ev} {p i : Nat} {x : Ev} (hx : E[i]? = some x) (h1 : x.to = (p : Int)) (h2 : x.key.time < t) : hasE t E p = true := by
 unfold hasE
 rw [List.any_eq_true]
 exact ⟨x, List.mem_of_getElem? hx, by simp [h1, h2]⟩
theorem has_false {t : Int} {E : List Ev} {p : Nat} (h : ∀ y ∈ E, ¬ (y.to = (p : Int) ∧ y.key.time < t)) : hasE t E p = false := by
 unfold hasE
 rw [List.any_eq_false]
 intro y hy e
 have := h y hy
 simp at e
 exact this e
set_option maxRecDepth 100000 in
set_option maxHeartbeats 2000000 in
theorem rReady_any {w : World} {a : Option Addr} {m cap : Nat} (c : Int) (E : List Ev) (h : EsIn w a E) (hl : E.length = m) (hm : m ≤ 1000) (t : Int) :
  Calls Tryz.prog 54 #[.agg #[.int .i64 c, .slice a m cap], .int .i64 t] w fun e w' => ∃ r, e = .returned r ∧ w'.ownsRow w.heap.size 3 1 r (rdyE t E 17).length ((rdyE t E 17).map natV') ∧ Fr0 none' w w' := by
 obtain ⟨i0, hi, hz0, hz1, hz2⟩ := info_parts info_int
 have H := Lib.hid h
 have Hl := Lib.hid hl
 clear h hl
 obtain ⟨R, hR⟩ : ∃ R, rdyE t E 17 = R := ⟨_, rfl⟩
 rw [hR]
 have HR := Lib.hid hR
 clear hR
 go_enter Tryz.func54, Tryz.ntmps54
 go_wp2_with fail
 obtain ⟨SB, hSB⟩ : ∃ B, w.heap.size = B := ⟨_, rfl⟩
 obtain ⟨W, hW⟩ : ∃ W, w.alloc (.cells #[.int .i64 c, .slice a m cap] 50) = W := ⟨_, rfl⟩
 have HS := Lib.hid (show W.heap[SB]? = some (.cells #[.int .i64 c, .slice a m cap] 50 (0, 0)) by rw [← hW, ← hSB]; exact World.alloc_heap_new w _)
 have HF := Lib.hid (show Fr0 none' w W by rw [← hW]; exact (Fr0.refl _ _).alloc _)
 have HSB := Lib.hid hSB
 rw [hW]
 try rw [hSB]
 clear hW hSB
 go_loopw [5, 6, 7] (fun v5 v6 _ wr => ∃ k : Nat, 1 ≤ k ∧ k ≤ 17 ∧ v6 = .int .i64 k ∧ Hid (wr.ownsRow (SB + 1) 3 1 v5 (rdyE t E k).length ((rdyE t E k).map natV')) ∧ Hid (wr.heap[SB]? = some (.cells #[.int .i64 c, .slice a m cap] 50 (0, 0))) ∧ Hid (Fr0 none' w wr)) (fun _ v6 _ _ => 17 - (Go.RowKit.intOf v6).toNat)
 case atStart => exact ⟨1, Nat.le_refl _, by omega, rfl, World.ownsRow_nil _ _ _ _, HS, HF⟩
 case round =>
  obtain ⟨k, hk1, hk, rfl, HE, HS, HF⟩ := hrel
  obtain ⟨O, hO⟩ : ∃ O, rdyE t E k = O := ⟨_, rfl⟩
  have hlo : O.length ≤ 16 := by have := rdy_len t E k; rw [hO] at this; omega
  rw [hO] at HE
  obtain ⟨oa, oc, rfl⟩ : ∃ oa oc, u5 = .slice oa O.length oc := by
   rcases HE.out.2 with ⟨h0, h1⟩ | ⟨g, cap, cur, hv, _⟩
   ·exact ⟨none, 0, by rw [h0, h1]⟩
   ·exact ⟨_, _, hv⟩
  by_cases hlt : k ≤ 16
  ·have q1 : (k : Int) ≤ 16 := by omega
   have hsn := rdy_snoc t E hk1
   rw [hO] at hsn
   have Hsn := Lib.hid hsn
   clear hsn hO
   go_wp2_with fail
   have w0 : World := wr
   obtain ⟨W0, hW0⟩ : ∃ W0, wr = W0 := ⟨_, rfl⟩
   go_loopw [5, 7] (fun v5 v7 wi => ∃ i : Nat, i ≤ m ∧ v7 = .int .i64 i ∧ v5 = .slice oa O.length oc ∧ Hid (∀ y ∈ E.take i, ¬ (y.to = (k : Int) ∧ y.key.time < t)) ∧ Hid (wi.ownsRow (SB + 1) 3 1 (.slice oa O.length oc) O.length (O.map natV')) ∧ Hid (wi.heap[SB]? = some (.cells #[.int .i64 c, .slice a m cap] 50 (0, 0))) ∧ Hid (Fr0 none' w wi)) (fun _ v7 _ => m - (Go.RowKit.intOf v7).toNat)
   case atStart => exact ⟨0, Nat.zero_le _, rfl, rfl, by unfold Hid; simp, HE, HS, HF⟩
   case round =>
    clear hW0 W0 w0 HE HS HF
    obtain ⟨i, hi', rfl, rfl, HN, HE, HS, HF⟩ := hrel
    have s0 := cells_in HS.out 0
    have s1 := cells_in HS.out 1
    simp at s0 s1
    by_cases hil : i < m
    ·obtain ⟨x, hx⟩ : ∃ x, E[i]? = some x := ⟨_, List.getElem?_eq_getElem (by rw [Hl.out]; exact hil)⟩
     obtain ⟨g2, o, rfl, hxc⟩ := H.out i x hx
     obtain ⟨x0, x1, x2, x3, x4⟩ := hxc.later HF.out
     have k1 : (0 : Int) ≤ (i : Int) := by omega
     have k2 : (i : Int) < (m : Int) := by omega
     have Hx := Lib.hid hx
     clear hx hxc
     by_cases hy : x.to = (k : Int) ∧ x.key.time < t
     ·have hs := Hsn.out
      rw [has_true Hx.out hy.1 hy.2, if_pos rfl] at hs
      have Hs := Lib.hid hs
      have d1 : (x.to == (k : Int)) = true := by simpa using hy.1
      have d2 : decide (x.key.time < t) = true := decide_eq_true hy.2
      have hsrc := Src.newRow (P := Tryz.prog) (size := 1) (tx := 33) (ty := 3) wr Tryz.underlying33 1 1 [.int .i64 (k : Int)] rfl (by simp [Value.oneCell'])
      have hbase : SB + 1 ≤ wr.heap.size := (Array.getElem?_eq_some_iff.1 HS.out).1
      clear hs hy
      go_wp2_with (at_builtin; refine wpList_append_k rfl _ _ 33 33 rfl (SB + 1) 3 i0 (.int .i64 0) 1 8 Tryz.underlying33 hi hz0 hz1 hz2 rfl (by decide) (Value.slice oa O.length oc) O.length _ rfl (ownsRow_fr0 HE.out ((Fr0.refl none' wr).alloc _) (fun _ _ h => h)) (.slice (some ⟨wr.heap.size, 0, none⟩) 1 1) 1 _ rfl hsrc (by unfold maxLen; omega) (by omega) (by simp; omega) ?_; intro v9 w9 hown hgrow hdr hob; obtain ⟨g9, c9, rfl⟩ := ownsRow_k_succ hown; have Lw9 := Lib.hid HE.out.lt; have Fw9 := Lib.hid (show Fr0 (fun i => (Value.slice oa O.length oc).ownBlock = some i) wr w9 from ((Fr0.refl _ wr).alloc _).grown hgrow (fun i hi _ => hi)); have Rw9 := Lib.hid hown; clear hown hgrow hdr hob hsrc)
      have HSn := Lib.hid ((Fw9.out.block SB (Array.getElem?_eq_some_iff.1 HS.out).1 (fun h => by have := (Lw9.out SB h).1; omega)).trans HS.out)
      have HFn := Lib.hid (HF.out.trans' Fw9.out (fun i hi h => by have := (Lw9.out i h).1; have := HSB.out; omega))
      clear x0 x1 x2 x3 x4 s0 s1 d1 d2
      go_roundw
      case rel =>
       refine ⟨k + 1, by omega, by omega, by go_num, ?_, HSn, HFn⟩
       rw [Hs.out, List.length_append, List.length_singleton]
       have := Rw9.out
       simpa [Lib.hid, Hid, natV'] using this
      case measure => simp [Go.RowKit.intOf]; omega
     ·have HN1 := Lib.hid (show ∀ y ∈ E.take (i + 1), ¬ (y.to = (k : Int) ∧ y.key.time < t) from fun y hy' => by
       rw [List.take_add_one, Hx.out, List.mem_append] at hy'
       rcases hy' with hy' | hy'
       ·exact HN.out y hy'
       ·simp at hy'; subst hy'; exact hy)
      by_cases h1 : x.to = (k : Int)
      ·have d1 : (x.to == (k : Int)) = true := by simpa using h1
       have d2 : decide (x.key.time < t) = false := decide_eq_false (fun h => hy ⟨h1, h⟩)
       clear hy h1
       go_wp2_with fail
       go_roundw
       case rel => exact ⟨i + 1, by omega, by go_num, rfl, HN1, HE, HS, HF⟩
       case measure => simp [Go.RowKit.intOf]; omega
      ·have d1 : (x.to == (k : Int)) = false := by simpa using h1
       clear hy h1
       go_wp2_with fail
       go_roundw
       case rel => exact ⟨i + 1, by omega, by go_num, rfl, HN1, HE, HS, HF⟩
       case measure => simp [Go.RowKit.intOf]; omega
    ·have hs := Hsn.out
     have hn := HN.out
     rw [List.take_of_length_le (by rw [Hl.out]; omega)] at hn
     rw [has_false hn, if_neg (by simp), List.append_nil] at hs
     have Hs := Lib.hid hs
     clear hs hn
     go_wp2_with fail
     go_roundw
     case rel => exact ⟨k + 1, by omega, by omega, by go_num, by rw [Hs.out]; exact HE, HS, HF⟩
     case measure => simp [Go.RowKit.intOf]; omega
  ·have hk17 : k = 17 := by omega
   have hfin : R = O := by rw [← HR.out, ← hO, hk17]
   have Hfin := Lib.hid hfin
   have q1 : ¬ (k : Int) ≤ 16 := by omega
   clear hfin hO hk17
   go_wp2_with fail
   go_ret
   refine ⟨.slice oa O.length oc, rfl, ?_, HF.out⟩
   rw [Hfin.out]
   exact own_low HE.out (show w.heap.size ≤ SB + 1 by have := HSB.out; omega)
end Go.Proofs.YtmcgipilopfgoaaGreat

/-
  slices.Sort and slices.Compact at a row of ints; which processes are ready.
-/
namespace Go.Proofs.YtmcgipilopfgoaaGreat
open Go Go.RowKit Go.Sort

theorem fr_growR {w : World} {os : Array Obj} : Fr0 none' w (grow w os) := ⟨rfl, rfl, rfl, by simp [grow], fun k hk _ => heap_grow_old w os hk⟩
theorem fr_putR {enc : Int → Value} {w : World} {g q : Nat} {d : Array Int} : Fr0 (fun k => k = g) w (putRow enc (Sort.ahead w q) g 0 d) := by
 refine ⟨rfl, rfl, rfl, by simp [putRow, mapBlock, Sort.ahead], fun k hk hs => ?_⟩
 simp [putRow, mapBlock, Sort.ahead, Array.getElem?_modify, show g ≠ k from fun e => hs e.symm]
def sortI (L : List Int) : List Int := L.mergeSort fun x y => decide (x ≤ y)
theorem sortI_perm (L : List Int) : (sortI L).Perm L := List.mergeSort_perm _ _
theorem sortI_sorted (L : List Int) : (sortI L).Pairwise (· ≤ ·) := by
 have := List.pairwise_mergeSort (le := fun x y : Int => decide (x ≤ y)) (fun a b c h1 h2 => decide_eq_true (Int.le_trans (of_decide_eq_true h1) (of_decide_eq_true h2))) (fun a b => by
  rcases Int.le_total a b with h | h
  ·simp [h]
  ·simp [h]) L
 exact this.imp (fun h => of_decide_eq_true h)
theorem sortI_len (L : List Int) : (sortI L).length = L.length := (sortI_perm L).length_eq
theorem sort_row {w : World} {base g cap n : Nat} (L : List Int) (h : w.ownsRow base 3 1 (.slice (some ⟨g, 0, none⟩) n cap) n (L.map (Value.int .i64))) (hn : n ≤ 1000000) :
  Calls Tryz.prog 39 #[.slice (some ⟨g, 0, none⟩) n cap] w fun e w' => e = .returned (.tuple #[]) ∧ w'.ownsRow base 3 1 (.slice (some ⟨g, 0, none⟩) n cap) n ((sortI L).map (Value.int .i64)) ∧ Fr0 (fun k => k = g) w w' := by
 obtain ⟨g', cap', hv, _, hlt, _, _, hl, hH⟩ := Lib.holds_of_ownsRow h (by intro e; cases e)
 injection hv with h1 _ h3
 injection h1 with h1
 injection h1 with h1
 subst h1
 subst h3
 have hc := Tryz.slices_Sort_int g 0 cap L w hH hlt (by omega)
 rw [hl] at hc
 refine hc.mono ?_
 rintro e w' ⟨rfl, q, os, rfl⟩
 have hp := Lib.ownsRow_putRow (q := q) (ys := sortI L) h (by rw [sortI_len, hl]) (Nat.le_refl n)
 rw [List.take_of_length_le (by rw [sortI_len, hl]; exact Nat.le_refl _)] at hp
 exact ⟨rfl, ownsRow_fr0 hp fr_growR (fun _ _ h => h), fr_putR.trans (fr_growR.mono (fun _ _ h => h.elim))⟩
theorem compact_row {w : World} {base g cap n : Nat} (L : List Int) (h : w.ownsRow base 3 1 (.slice (some ⟨g, 0, none⟩) n cap) n (L.map (Value.int .i64))) (hn : n ≤ 1000000) :
  Calls Tryz.prog 40 #[.slice (some ⟨g, 0, none⟩) n cap] w fun e w' => e = .returned (.slice (some ⟨g, 0, none⟩) (Lib.compact L).length cap) ∧ w'.ownsRow base 3 1 (.slice (some ⟨g, 0, none⟩) (Lib.compact L).length cap) (Lib.compact L).length ((Lib.compact L).map (Value.int .i64)) ∧ Fr0 (fun k => k = g) w w' := by
 obtain ⟨g', cap', hv, _, hlt, hcap, _, hl, hH⟩ := Lib.holds_of_ownsRow h (by intro e; cases e)
 injection hv with h1 _ h3
 injection h1 with h1
 injection h1 with h1
 subst h1
 subst h3
 have hc := Tryz.slices_Compact_int g 0 cap L w hH (by omega) (by omega)
 rw [hl] at hc
 refine hc.mono ?_
 rintro e w' ⟨rfl, q, rfl⟩
 have hle : (Lib.compact L).length ≤ n := by
  unfold Lib.compact Lib.compactUpTo
  rw [List.length_map]
  refine Nat.le_trans (List.length_filter_le _ _) ?_
  rw [List.length_range, hl]
  exact Nat.le_refl _
 have hp := Lib.ownsRow_putRow (q := q) (ys := Lib.compact L ++ List.replicate (n - (Lib.compact L).length) 0) h (by rw [List.length_append, List.length_replicate]; omega) hle
 rw [List.take_left' rfl] at hp
 exact ⟨rfl, hp, fr_putR⟩
/-- Of a list in order each element once. -/
theorem comp_upto {d : Array Int} (hs : ∀ i j, i ≤ j → j < d.size → d[i]! ≤ d[j]!) : ∀ m, m ≤ d.size → (Lib.compactUpTo d m).Pairwise (· < ·) ∧ ∀ x, x ∈ Lib.compactUpTo d m ↔ ∃ j, j < m ∧ d[j]! = x
 | 0, _ => by
  refine ⟨by simp [Lib.compactUpTo], fun x => ?_⟩
  simp [Lib.compactUpTo]
 | m + 1, hm => by
  obtain ⟨ih1, ih2⟩ := comp_upto hs m (by omega)
  rw [Lib.compactUpTo_succ]
  by_cases hk : Lib.keeps d m = true
  ·rw [if_pos hk]
   have hk' : m = 0 ∨ d[m]! ≠ d[m - 1]! := by simpa [Lib.keeps] using hk
   refine ⟨List.pairwise_append.2 ⟨ih1, List.pairwise_singleton _ _, fun a ha b hb => ?_⟩, fun x => ?_⟩
   ·rw [List.mem_singleton.1 hb]
    obtain ⟨j, hj, rfl⟩ := (ih2 a).1 ha
    have h1 := hs j (m - 1) (by omega) (by omega)
    have h2 := hs (m - 1) m (by omega) (by omega)
    rcases hk' with h3 | h3
    ·omega
    ·omega
   ·rw [List.mem_append, List.mem_singleton, ih2]
    constructor
    ·rintro (⟨j, hj, rfl⟩ | rfl)
     ·exact ⟨j, by omega, rfl⟩
     ·exact ⟨m, by omega, rfl⟩
    ·rintro ⟨j, hj, rfl⟩
     rcases Nat.lt_or_ge j m with h | h
     ·exact .inl ⟨j, h, rfl⟩
     ·obtain rfl : j = m := by omega
      exact .inr rfl
  ·rw [if_neg hk, List.append_nil]
   have hk' : ¬ (m = 0 ∨ d[m]! ≠ d[m - 1]!) := by simpa [Lib.keeps] using hk
   refine ⟨ih1, fun x => ?_⟩
   rw [ih2]
   constructor
   ·rintro ⟨j, hj, rfl⟩
    exact ⟨j, by omega, rfl⟩
   ·rintro ⟨j, hj, rfl⟩
    rcases Nat.lt_or_ge j m with h | h
    ·exact ⟨j, h, rfl⟩
    ·obtain rfl : j = m := by omega
     refine ⟨j - 1, by omega, ?_⟩
     by_cases e : d[j]! = d[j - 1]!
     ·exact e.symm
     ·exact absurd (.inr e) hk'
theorem comp_sorted {L : List Int} (hs : L.Pairwise (· ≤ ·)) : (Lib.compact L).Pairwise (· < ·) ∧ ∀ x, x ∈ Lib.compact L ↔ x ∈ L := by
 have hget : ∀ i, i < L.length → ∃ h : i < L.length, L.toArray[i]! = L[i] := fun i hi => ⟨hi, by simp [getElem!_pos, hi]⟩
 have hs' : ∀ i j, i ≤ j → j < L.toArray.size → L.toArray[i]! ≤ L.toArray[j]! := fun i j hij hj => by
  have hj' : j < L.length := by simpa using hj
  obtain ⟨h1, e1⟩ := hget i (by omega)
  obtain ⟨h2, e2⟩ := hget j hj'
  rw [e1, e2]
  rcases Nat.lt_or_ge i j with h | h
  ·exact List.pairwise_iff_getElem.1 hs i j h1 h2 h
  ·obtain rfl : i = j := by omega
   exact Int.le_refl _
 obtain ⟨h1, h2⟩ := comp_upto hs' L.length (by simp)
 refine ⟨h1, fun x => ?_⟩
 unfold Lib.compact
 rw [h2]
 constructor
 ·rintro ⟨j, hj, rfl⟩
  obtain ⟨h, e⟩ := hget j hj
  rw [e]
  exact List.getElem_mem h
 ·intro hx
  obtain ⟨j, hj, rfl⟩ := List.mem_iff_getElem.1 hx
  obtain ⟨h, e⟩ := hget j hj
  exact ⟨j, hj, e⟩
/-- The processes with an event before a time, as they come. -/
def toE (t : Int) (E : List Ev) : List Int := (befE t E).map (·.to)
theorem mem_toE {t x : Int} {E : List Ev} : x ∈ toE t E ↔ ∃ y ∈ E, y.key.time < t ∧ y.to = x := by
 unfold toE befE
 rw [List.mem_map]
 constructor
 ·rintro ⟨y, hy, rfl⟩
  obtain ⟨h1, h2⟩ := List.mem_filter.1 hy
  exact ⟨y, h1, of_decide_eq_true h2, rfl⟩
 ·rintro ⟨y, h1, h2, rfl⟩
  exact ⟨y, List.mem_filter.2 ⟨h1, decide_eq_true h2⟩, rfl⟩
theorem ready_eq {t : Int} {E : List Ev} (hr : ∀ x ∈ E, RightE x) : (Lib.compact (sortI (toE t E))).map (Value.int .i64) = (rdyE t E 17).map natV' := by
 obtain ⟨h1, h2⟩ := comp_sorted (sortI_sorted (toE t E))
 have h3 : (rdyE t E 17).Pairwise (· < ·) := by
  unfold rdyE
  exact List.Pairwise.filter _ (List.pairwise_lt_range' ..)
 have h4 : ((rdyE t E 17).map (fun p : Nat => (p : Int))).Pairwise (· < ·) := List.Pairwise.map _ (fun a b h => by omega) h3
 have nd : ∀ {l : List Int}, l.Pairwise (· < ·) → l.Nodup := fun h => h.imp (fun h e => by omega)
 have hp : (Lib.compact (sortI (toE t E))).Perm ((rdyE t E 17).map (fun p : Nat => (p : Int))) := (List.perm_ext_iff_of_nodup (nd h1) (nd h4)).2 (fun x => by
  rw [h2, (sortI_perm _).mem_iff, mem_toE, List.mem_map]
  constructor
  ·rintro ⟨y, hy, ht, rfl⟩
   have hry := (hr y hy).2
   refine ⟨y.to.toNat, ?_, by omega⟩
   unfold rdyE
   rw [List.mem_filter]
   refine ⟨by rw [List.mem_range'_1]; omega, ?_⟩
   unfold hasE
   rw [List.any_eq_true]
   exact ⟨y, hy, by simp [ht]; omega⟩
  ·rintro ⟨p, hp, rfl⟩
   unfold rdyE at hp
   obtain ⟨_, hp⟩ := List.mem_filter.1 hp
   unfold hasE at hp
   obtain ⟨y, hy, hyp⟩ := List.any_eq_true.1 hp
   simp at hyp
   exact ⟨y, hy, hyp.2, hyp.1⟩)
 have he : Lib.compact (sortI (toE t E)) = (rdyE t E 17).map (fun p : Nat => (p : Int)) := List.Perm.eq_of_pairwise (le := fun a b : Int => a < b) (fun a b _ _ h1 h2 => by omega) h1 h4 hp
 rw [he, List.map_map]
 rfl
theorem ready_len {t : Int} {E : List Ev} (hr : ∀ x ∈ E, RightE x) : (Lib.compact (sortI (toE t E))).length = (rdyE t E 17).length := by
 have := congrArg List.length (ready_eq (t := t) hr)
 simpa using this
end Go.Proofs.YtmcgipilopfgoaaGreat

/-
  The queue: Ready.
-/
namespace Go.Proofs.YtmcgipilopfgoaaGreat
open Go Go.RowKit Go.ChangeMaps
attribute [local go_sem ↓] Go.wp_at_zero Go.wp_at_succ
attribute [local go_sem] Oper.semAt_some wide_fn wide_depth wide_fnR wide_depthR
variable {w w' : World} {qb n T : Nat} {E : List Ev} {ft : Nat → Prop}

theorem to_snoc {t : Int} {E : List Ev} {i : Nat} {x : Ev} (hx : E[i]? = some x) : toE t (E.take (i + 1)) = toE t (E.take i) ++ if x.key.time < t then [x.to] else [] := by
 unfold toE befE
 rw [List.take_add_one, hx, List.filter_append, List.map_append]
 congr 1
 by_cases h : x.key.time < t
 ·simp [h]
 ·simp [h]
set_option maxRecDepth 100000 in
set_option maxHeartbeats 2000000 in
theorem QReady_in (h : QIs w qb n T E ft) (t : Int) : CallsIn Fence.wide 0 Tryz.prog 13 #[.pointer (some ⟨qb, 0, none⟩), .int .i64 t] w fun e w' => ∃ v, e = .returned v ∧ w'.ownsRow w.heap.size 3 1 v (rdyE t E 17).length ((rdyE t E 17).map natV') ∧ Fr0 none' w w' := by
 obtain ⟨i0, hi, hz0, hz1, hz2⟩ := info_parts info_int
 have H := Lib.hid h
 have HG := Lib.hid h.good
 have HE := Lib.hid h.le
 have hrl := ready_len (t := t) h.good.2.2
 have hre := ready_eq (t := t) h.good.2.2
 obtain ⟨R, hR⟩ : ∃ R, rdyE t E 17 = R := ⟨_, rfl⟩
 rw [hR] at hrl hre ⊢
 have Hrl := Lib.hid hrl
 have Hre := Lib.hid hre
 clear h hrl hre hR
 refine callsIn_of_wp_marks Tryz.func13 rfl trivial ?_ rfl
 simp only [Tryz.ntmps13, List.size_toArray, List.length_cons, List.length_nil, Nat.reduceAdd, Nat.reduceSub, Array.replicate_succ, Array.replicate_zero, List.push_toArray, List.append_toArray, List.nil_append, List.cons_append]
 gi_wp2_with fail
 obtain ⟨N0, hN0⟩ : ∃ N0, w.heap.size = N0 := ⟨_, rfl⟩
 obtain ⟨W3, hW3⟩ : ∃ W, (w.alloc (.cells #[.int .i64 t] 3)).alloc (.cells #[.slice none 0 0] 33) = W := ⟨_, rfl⟩
 have hs1 : (w.alloc (.cells #[.int .i64 t] 3)).heap.size = N0 + 1 := by rw [World.size_alloc, hN0]
 have Hs3 := Lib.hid (show W3.heap.size = N0 + 2 by rw [← hW3, World.size_alloc, hs1])
 have F3 := Lib.hid (show Fr0 none' w W3 by rw [← hW3]; exact ((Fr0.refl _ _).alloc _).alloc _)
 have HM3 := Lib.hid (show Box W3 N0 (.int .i64 t) by
  rw [← hW3]
  have h1 := Box.new w (.int .i64 t) 3
  rw [hN0] at h1
  exact h1.alloc _)
 have HO3 := Lib.hid (show Box W3 (N0 + 1) (.slice none 0 0) by
  rw [← hW3, ← hs1]
  exact Box.new _ _ _)
 rw [hW3]
 try rw [hN0]
 have HN0 := Lib.hid hN0
 clear hW3 hN0 hs1
 refine (callsIn_wide.2 (ordered_any qb W3)).mono ?_
 rintro e w4 ⟨rfl, hw4⟩
 rw [Hs3.out]
 obtain ⟨W4, hW4⟩ : ∃ W, W3.alloc (.cells #[.pointer (some ⟨qb, 0, none⟩)] 35) = W := ⟨_, rfl⟩
 rw [hW4] at hw4
 subst hw4
 have F34 := Lib.hid (show Fr0 none' W3 w4 by rw [← hW4]; exact (Fr0.refl _ _).alloc _)
 have Bq4 := Lib.hid (show Box w4 (N0 + 2) (.pointer (some ⟨qb, 0, none⟩)) by rw [← hW4, ← Hs3.out]; exact Box.new _ _ _)
 have Hs4 := Lib.hid (show w4.heap.size = N0 + 3 by rw [← hW4, World.size_alloc, Hs3.out])
 have F4 := Lib.hid (show Fr0 none' w w4 from F3.out.trans F34.out)
 have H4 := Lib.hid (H.out.later F4.out)
 have HM4 := Lib.hid (HM3.out.fr0 F34.out id)
 have HO4 := Lib.hid (HO3.out.fr0 F34.out id)
 clear hW4
 obtain ⟨rd, it, hrd⟩ := H4.out.ordered (N0 + 2) Bq4.out
 have Hrd := Lib.hid hrd
 clear hrd
 have hlf := H.out.lt
 gi_wp2_with fail
 refine wpIn_iterS0 (σ := Option Nat) (gf := 69) (lb := #[.pointer (some ⟨N0 + 2, 0, none⟩)]) rfl (by intro args w; rfl) it (Keep.refl _ _) (fun _ => rfl) (fun k hk => hk.elim) (fun k hk => by
   rw [Hs4.out]
   rcases Hrd.out k hk with rfl | h
   ·omega
   ·have := hlf k h
    have := HN0.out
    omega)
  (fun i s W => ∃ v, v.ownBlock = s ∧ Box W (N0 + 1) v ∧ W.ownsRow (N0 + 5) 3 1 v (toE t (E.take i)).length ((toE t (E.take i)).map (Value.int .i64)) ∧ (toE t (E.take i)).length ≤ i ∧ Box W N0 (.int .i64 t) ∧ Fr0 none' w W)
  (fun s j => j = N0 + 1 ∨ s = some j)
  (fun _ _ => False) ?hInv ?hlt (fun _ _ _ h _ => h.elim) none ?h0 ?hf0
  (fun (x : Ev) W a' => ∃ B, a' = { tmps := #[.pointer (some ⟨qb, 0, none⟩), .int .i64 t, undef, .pointer (some ⟨N0, 0, none⟩), .slice none 0 0, .pointer (some ⟨N0 + 1, 0, none⟩), .pointer (some ⟨B, 0, none⟩), .pointer (some ⟨qb, 0, none⟩), .func (.func 69) #[] #[.pointer (some ⟨N0 + 2, 0, none⟩)], .agg #[.int .i64 x.key.time, .int .i64 x.key.source, .int .i64 x.key.seq, .int .i64 x.to, .int .i64 x.value], undef, undef, undef, undef, undef, undef, undef, undef, undef, undef, undef, undef, undef, undef], defers := [] } ∧ N0 + 4 < B ∧ W.heap[B]? = some (.cells (cev x).toArray 28 (0, 0)))
  ?assign ?keep ?body ?done (fun _ _ _ _ h _ => h.elim)
 case hInv =>
  rintro i s W1 W2 ⟨v, rfl, h2, h3, h4, h6, h7⟩ hf
  rw [Hs4.out] at hf
  refine ⟨v, rfl, h2.fr0 hf (fun hs => hs.2 (.inl rfl)), ownsRow_fr0 h3 hf (fun g hg hs => hs.2 (.inr hg)), h4, h6.fr0 hf (fun hs => ?_), h7.trans' hf (fun j hj hs => ?_)⟩
  ·rcases hs.1 with h | h
   ·exact h
   ·omega
  ·rcases hs.1 with h | h
   ·exact h
   ·have := HN0.out; omega
 case hlt =>
  rintro i s W j ⟨v, rfl, h2, h3, h4, h6, h7⟩ (rfl | hk)
  ·exact h2.lt
  ·exact (h3.lt j hk).2
 case h0 => exact ⟨.slice none 0 0, rfl, HO4.out, World.ownsRow_nil _ _ _ _, Nat.zero_le _, HM4.out, F4.out⟩
 case hf0 =>
  rintro j (rfl | hk)
  ·refine ⟨id, fun hr => ?_⟩
   rcases Hrd.out _ hr with h | h
   ·omega
   ·have := hlf _ h
    have := HN0.out
    omega
  ·cases hk
 case assign =>
  intro l x W K hlt hK
  rw [Hs4.out] at hlt
  simp only [evV]
  gi_wp2
  exact hK _ _ ⟨W.heap.size, rfl, by omega, World.alloc_heap_new W _⟩ ((Fr0.refl _ _).alloc _)
 case keep =>
  rintro x W4 W5 a' ⟨B, rfl, hB, hc⟩ hf
  exact ⟨B, rfl, hB, (hf.block B (Array.getElem?_eq_some_iff.1 hc).1 (by rw [Hs4.out]; omega)).trans hc⟩
 case body =>
  rintro l i x s W a' hxi ⟨v, rfl, h2, h3, h4, h6, h7⟩ hfoot hsz ⟨B, rfl, hB, hcB⟩
  have hlt : i < E.length := (List.getElem?_eq_some_iff.1 hxi).1
  have b0 := cells_in hcB 0
  have b1 := cells_in hcB 1
  have b2 := cells_in hcB 2
  have b3 := cells_in hcB 3
  have b4 := cells_in hcB 4
  simp [cev] at b0 b1 b2 b3 b4
  have cO := h2.cell
  have cM := h6.cell
  have hil := HE.out
  obtain ⟨G, hG⟩ : ∃ G, toE t (E.take i) = G := ⟨_, rfl⟩
  have hsn := to_snoc (t := t) hxi
  rw [hG] at h3 h4 hsn
  obtain ⟨gl, hgl⟩ : ∃ gl, G.length = gl := ⟨_, rfl⟩
  rw [hgl] at h3 h4
  obtain ⟨va, vc, rfl⟩ : ∃ va vc, v = .slice va gl vc := by
   rcases h3.2 with ⟨e1, e2⟩ | ⟨g, cap, cur, hv, _⟩
   ·exact ⟨none, 0, by rw [e1, e2]⟩
   ·exact ⟨_, _, hv⟩
  have H2 := Lib.hid h2
  have H3 := Lib.hid h3
  have H6 := Lib.hid h6
  have H7 := Lib.hid h7
  have Hgl := Lib.hid hgl
  have cF := h2.frozen
  have hgl5 : gl ≤ 1000 := by omega
  by_cases ht : x.key.time < t
  ·have d1 : decide (x.key.time < t) = true := decide_eq_true ht
   rw [if_pos ht] at hsn
   have Hsn := Lib.hid hsn
   have hsrc := Src.newRow (P := Tryz.prog) (size := 1) (tx := 33) (ty := 3) W Tryz.underlying33 1 1 [.int .i64 x.to] rfl (by simp [Value.oneCell'])
   have hbase : N0 + 5 ≤ W.heap.size := by rw [Hs4.out] at hsz; omega
   clear h2 h3 h6 h7 hgl hG hsn ht hxi
   gi_wp2_with (gi_at_builtin; refine wpListIn_append_k rfl _ _ 33 33 rfl (N0 + 5) 3 i0 (.int .i64 0) 1 8 Tryz.underlying33 hi hz0 hz1 hz2 rfl (by decide) (.slice va gl vc) gl _ rfl (ownsRow_fr0 H3.out ((Fr0.refl none' W).alloc _) (fun _ _ h => h)) (.slice (some ⟨W.heap.size, 0, none⟩) 1 1) 1 _ rfl hsrc (by unfold maxLen; omega) (by omega) (by simp; omega) ?_; intro v' w6 hown' hgrow hdr hob; obtain ⟨g', cap', rfl⟩ := ownsRow_k_succ hown'; have hfg := ((Fr0.refl (fun k => (Value.slice va gl vc).ownBlock = some k) W).alloc _).grown hgrow (fun k hk _ => hk); have hb1 := H2.out.fr0 hfg (fun h => by have := (H3.out.lt _ h).1; omega); have hc1 := hb1.cell; have hf1 := hb1.frozen)
   have hb2 := hb1.set (.slice (some ⟨g', 0, none⟩) (gl + 1) cap')
   have hf2 := (hfg.mono (S' := fun k => k = N0 + 1 ∨ (Value.slice va gl vc).ownBlock = some k) (fun k _ h => .inr h)).setCell (b := N0 + 1) (o := 0) (fun _ => .inl rfl) (.slice (some ⟨g', 0, none⟩) (gl + 1) cap')
   refine ⟨_, ⟨(.slice (some ⟨g', 0, none⟩) (gl + 1) cap'), rfl, hb2, ?_, ?_, ?_, ?_⟩, hf2, ?_⟩
   ·have h3 := ownsRow_setCell_below hown' (a := ⟨N0 + 1, 0, none⟩) (by simp) (.slice (some ⟨g', 0, none⟩) (gl + 1) cap')
    rw [Hsn.out, List.length_append, List.length_singleton, Hgl.out, List.map_append]
    exact h3
   ·rw [Hsn.out, List.length_append, List.length_singleton, Hgl.out]
    omega
   ·refine H6.out.fr0 hf2 (fun hs => ?_)
    rcases hs with h | h
    ·omega
    ·have := (H3.out.lt _ h).1; omega
   ·refine H7.out.trans' hf2 (fun j hj hs => ?_)
    rcases hs with h | h
    ·have := HN0.out; omega
    ·have := (H3.out.lt _ h).1; have := HN0.out; omega
   ·rintro j (rfl | hj)
    ·exact .inl (.inl rfl)
    ·rcases hob with h | h
     ·rw [h] at hj
      exact .inl (.inr hj)
     ·rw [h] at hj
      injection hj with hj
      rw [World.size_alloc] at hj
      exact .inr (by omega)
  ·have d1 : decide (x.key.time < t) = false := decide_eq_false ht
   rw [if_neg ht, List.append_nil] at hsn
   have Hsn := Lib.hid hsn
   clear h2 h3 h6 h7 hgl hG hsn ht hxi
   gi_wp2_with fail
   refine ⟨_, ⟨.slice va gl vc, rfl, H2.out, ?_, ?_, H6.out, H7.out⟩, Fr0.refl _ _, fun j hj => .inl hj⟩
   ·rw [Hsn.out, Hgl.out]
    exact H3.out
   ·rw [Hsn.out, Hgl.out]
    omega
 case done =>
  rintro D s W hDe ⟨v, rfl, h2, h3, h4, h6, h7⟩ hDf hK
  rw [Hs4.out] at hDe
  subst hDe
  rw [List.take_length] at h3 h4
  have hnl : (toE t E).length ≤ 256 := by have h1 := HE.out; omega
  have HK := Lib.hid hK
  have hc := h2.cell
  clear hDf hK it h6
  rcases h3.2 with ⟨rfl, h0⟩ | ⟨g, cap, cur, rfl, hg, hgW, _⟩
  ·have hnil : toE t E = [] := List.eq_nil_of_length_eq_zero h0
   rw [hnil] at Hre
   have hR0 : R = [] := by
    have := Hre.out
    simpa [sortI, Lib.compact, Lib.compactUpTo] using this
   subst hR0
   have hfp : Fr0 (fun k => k = N0 + 3) W (W.putObj (N0 + 3) (.deferred none)) := Fr0.putNew _ _ rfl
   have HF := Lib.hid (show Fr0 none' w (W.putObj (N0 + 3) (.deferred none)) from h7.trans' hfp (fun j hj e => by have := HN0.out; omega))
   clear h2 h3 h7 hfp hnil h0
   gi_wp2_with fail
   refine (callsIn_wide.2 (Tryz.slices_Sort_int_none none 0 W)).mono ?_
   rintro e w5 ⟨rfl, rfl⟩
   gi_wp2_with fail
   refine (callsIn_wide.2 (Tryz.slices_Compact_int_empty none 0 _)).mono ?_
   rintro e w6 ⟨rfl, rfl⟩
   gi_wp2
   refine ⟨by simp, .inl ⟨_, _, rfl, run_takeDeferred HK.out, ?_⟩⟩
   exact ⟨_, results_tmp rfl _ _ _, .slice none 0 0, rfl, World.ownsRow_nil _ _ _ _, HF.out⟩
  ·have H3 := Lib.hid h3
   have H7 := Lib.hid h7
   have H2 := Lib.hid h2
   clear h2 h3 h7
   gi_wp2_with fail
   refine (callsIn_wide.2 (sort_row (toE t E) H3.out (by omega))).mono ?_
   rintro e w5 ⟨rfl, hrow5, hf5⟩
   have hlt5 := hrow5.lt g rfl
   have HK5 := Lib.hid ((hf5.block (N0 + 3) (Array.getElem?_eq_some_iff.1 HK.out).1 (fun e => by omega)).trans HK.out)
   have H25 := Lib.hid (H2.out.fr0 hf5 (fun e => by omega))
   have hc5 := H25.out.cell
   have H75 := Lib.hid (H7.out.trans' hf5 (fun j hj e => by have := HN0.out; omega))
   have Hrow5 := Lib.hid hrow5
   clear hc hrow5 hf5
   gi_wp2_with fail
   refine (callsIn_wide.2 (compact_row (sortI (toE t E)) Hrow5.out (by omega))).mono ?_
   rintro e w6 ⟨rfl, hrow6, hf6⟩
   have HK6 := Lib.hid ((hf6.block (N0 + 3) (Array.getElem?_eq_some_iff.1 HK5.out).1 (fun e => by omega)).trans HK5.out)
   have hfp : Fr0 (fun k => k = N0 + 3) w6 (w6.putObj (N0 + 3) (.deferred none)) := Fr0.putNew _ _ rfl
   rw [Hre.out, Hrl.out] at hrow6
   have HF := Lib.hid (show (w6.putObj (N0 + 3) (.deferred none)).ownsRow w.heap.size 3 1 (.slice (some ⟨g, 0, none⟩) R.length cap) R.length (R.map natV') ∧ Fr0 none' w (w6.putObj (N0 + 3) (.deferred none)) from ⟨own_low (ownsRow_fr0 hrow6 hfp (fun g hg e => by have := (hrow6.lt g hg).1; omega)) (show w.heap.size ≤ N0 + 5 by have := HN0.out; omega), (H75.out.trans' hf6 (fun j hj e => by have := HN0.out; omega)).trans' hfp (fun j hj e => by have := HN0.out; omega)⟩)
   rw [Hrl.out]
   clear hc5 hrow6 hf6 hfp
   gi_wp2
   refine ⟨by simp, .inl ⟨_, _, rfl, run_takeDeferred HK6.out, ?_⟩⟩
   exact ⟨_, results_tmp rfl _ _ _, .slice (some ⟨g, 0, none⟩) R.length cap, rfl, HF.out⟩
theorem QIs.ready (h : QIs w qb n T E ft) (t : Int) : Calls Tryz.prog 13 #[.pointer (some ⟨qb, 0, none⟩), .int .i64 t] w fun e w' => ∃ v, e = .returned v ∧ w'.ownsRow w.heap.size 3 1 v (rdyE t E 17).length ((rdyE t E 17).map natV') ∧ Fr0 none' w w' := callsIn_wide.1 (QReady_in h t)
end Go.Proofs.YtmcgipilopfgoaaGreat

/-
  slices.Contains, slices.ContainsFunc at ints and at events; the closures of EvqReady.
-/
namespace Go.Proofs.YtmcgipilopfgoaaGreat
open Go Go.RowKit
attribute [local go_sem ↓] Go.wp_at_zero Go.wp_at_succ
attribute [local go_sem] Oper.semAt_some wide_fn wide_depth wide_fnR wide_depthR

/-- The cells of a row of numbers. -/
def PsIn (w : World) (a : Option Addr) (L : List Nat) : Prop := ∀ i x, L[i]? = some x → ∃ g, a = some ⟨g, 0, none⟩ ∧ w.cell? ⟨g, i, none⟩ = some (.int .i64 ((x : Nat) : Int))
theorem PsIn.later {w w' : World} {a : Option Addr} {L : List Nat} (h : PsIn w a L) (hf : Fr0 none' w w') : PsIn w' a L := fun i x hx => by
 obtain ⟨g, e, hc⟩ := h i x hx
 exact ⟨g, e, hf.later hc⟩
theorem PsIn.of_own {w : World} {base : Nat} {v : Value} {n : Nat} {L : List Nat} (h : w.ownsRow base 3 1 v n (L.map natV')) : ∃ a cap, v = .slice a n cap ∧ L.length = n ∧ PsIn w a L := by
 have hl : L.length = n := by simpa using h.1
 rcases h.2 with ⟨rfl, h0⟩ | ⟨g, cap, cur, rfl, hb, hg, hn, hcm, hs, ht⟩
 ·have : L = [] := List.eq_nil_of_length_eq_zero (by omega)
  subst this
  exact ⟨none, 0, by rw [h0], hl, fun i x hx => by simp at hx⟩
 ·refine ⟨some ⟨g, 0, none⟩, cap, rfl, hl, fun i x hx => ⟨g, rfl, ?_⟩⟩
  have hil : i < n * 1 := by have := (List.getElem?_eq_some_iff.1 hx).1; omega
  have hm : (L.map natV')[i]? = some (natV' x) := by rw [List.getElem?_map, hx]; rfl
  rw [cells_in hg, ← Array.getElem?_toList]
  rw [← ht, List.getElem?_take_of_lt hil] at hm
  exact hm
theorem idxI_any (f : Ev → Bool) (L : List Ev) : decide (idxI f L ≥ 0) = L.any f := by
 rcases idxI_cases f L with ⟨h1, h2⟩ | ⟨k, h1, _, x, hx, hfx, _⟩
 ·rw [h1]
  have : L.any f = false := by rw [List.any_eq_false]; intro x hx; simp [h2 x hx]
  rw [this]
  rfl
 ·rw [h1]
  have : L.any f = true := List.any_eq_true.2 ⟨x, List.mem_of_getElem? hx, hfx⟩
  rw [this]
  exact decide_eq_true (by simp)
set_option maxRecDepth 100000 in
theorem ContainsFE {w : World} {a : Option Addr} {n cap : Nat} (L : List Ev) (h : EsIn w a L) (hl : L.length = n) (hn : n ≤ 1000000) (g : Nat) (lb : Array Value) (f : Ev → Bool)
  (eg : ∀ args w, (callFunc g args).run Tryz.prog w = .ok (.enter g args) w)
  (hf : ∀ x W, Fr0 none' w W → Calls Tryz.prog g (#[evV x] ++ lb) W fun e w' => e = .returned (.bool (f x)) ∧ Fr0 none' W w') :
  Calls Tryz.prog 17 #[.slice a n cap, .func (.func g) #[] lb] w fun e w' => e = .returned (.bool (L.any f)) ∧ Fr0 none' w w' := by
 have HI := Lib.hid (IndexE (cap := cap) L h hl hn g lb f eg hf)
 have hd := idxI_any f L
 obtain ⟨i, hi⟩ : ∃ i, idxI f L = i := ⟨_, rfl⟩
 rw [hi] at HI hd
 rw [← hd]
 clear hi hd h hl hf
 go_enter Tryz.func17, Tryz.ntmps17
 go_wp2_with fail
 refine HI.out.mono ?_
 rintro e w1 ⟨rfl, hf⟩
 go_wp2_with fail
 go_ret
 exact ⟨rfl, hf⟩
set_option maxRecDepth 100000 in
set_option maxHeartbeats 2000000 in
/-- Whether an event is one of a process before a time. -/
theorem has_any {w : World} {pb tb : Nat} {p t : Int} (hp : Box w pb (.int .i64 p)) (ht : Box w tb (.int .i64 t)) (x : Ev) :
  Calls Tryz.prog 18 #[evV x, .pointer (some ⟨pb, 0, none⟩), .pointer (some ⟨tb, 0, none⟩)] w fun e w' => e = .returned (.bool (x.to == p && decide (x.key.time < t))) ∧ Fr0 none' w w' := by
 obtain ⟨W, hW⟩ : ∃ W, w.alloc (.cells #[.int .i64 x.key.time, .int .i64 x.key.source, .int .i64 x.key.seq, .int .i64 x.to, .int .i64 x.value] 28) = W := ⟨_, rfl⟩
 have hf : Fr0 none' w W := by rw [← hW]; exact (Fr0.refl _ _).alloc _
 have hb : W.heap[w.heap.size]? = some (.cells #[.int .i64 x.key.time, .int .i64 x.key.source, .int .i64 x.key.seq, .int .i64 x.to, .int .i64 x.value] 28 (0, 0)) := by rw [← hW]; exact World.alloc_heap_new _ _
 have cp := (hp.fr0 hf id).cell
 have ct := (ht.fr0 hf id).cell
 have x0 := cells_in hb 0
 have x1 := cells_in hb 1
 have x2 := cells_in hb 2
 have x3 := cells_in hb 3
 have x4 := cells_in hb 4
 simp at x0 x1 x2 x3 x4
 have HF := Lib.hid hf
 unfold evV
 clear hf hb hp ht
 obtain ⟨R, hR⟩ : ∃ R, (x.to == p && decide (x.key.time < t)) = R := ⟨_, rfl⟩
 rw [hR]
 by_cases h1 : x.to = p
 ·have d1 : (x.to == p) = true := by simpa using h1
  by_cases h2 : x.key.time < t
  ·have d2 : decide (x.key.time < t) = true := decide_eq_true h2
   obtain rfl : R = true := by rw [← hR, d1, d2]; rfl
   clear hR h1 h2
   go_enter Tryz.func18, Tryz.ntmps18
   subst hW
   go_wp2_with fail
   go_ret
   exact ⟨rfl, HF.out⟩
  ·have d2 : decide (x.key.time < t) = false := decide_eq_false h2
   obtain rfl : R = false := by rw [← hR, d1, d2]; rfl
   clear hR h1 h2
   go_enter Tryz.func18, Tryz.ntmps18
   subst hW
   go_wp2_with fail
   go_ret
   exact ⟨rfl, HF.out⟩
 ·have d1 : (x.to == p) = false := by simpa using h1
  obtain rfl : R = false := by rw [← hR, d1]; rfl
  clear hR h1
  go_enter Tryz.func18, Tryz.ntmps18
  subst hW
  go_wp2_with fail
  go_ret
  exact ⟨rfl, HF.out⟩
set_option maxRecDepth 100000 in
set_option maxHeartbeats 2000000 in
/-- Whether a process has no event before a time. -/
theorem hasnt_any {w : World} {sb tb : Nat} {a : Option Addr} {n cap : Nat} {t : Int} {E : List Ev} (hs : Box w sb (.slice a n cap)) (hE : EsIn w a E) (hl : E.length = n) (hn : n ≤ 1000000) (ht : Box w tb (.int .i64 t)) (p : Nat) :
  Calls Tryz.prog 16 #[.int .i64 (p : Int), .pointer (some ⟨sb, 0, none⟩), .pointer (some ⟨tb, 0, none⟩)] w fun e w' => e = .returned (.bool (!hasE t E p)) ∧ Fr0 none' w w' := by
 obtain ⟨W, hW⟩ : ∃ W, w.alloc (.cells #[.int .i64 (p : Int)] 3) = W := ⟨_, rfl⟩
 obtain ⟨pb, hpb⟩ : ∃ b, w.heap.size = b := ⟨_, rfl⟩
 have hf : Fr0 none' w W := by rw [← hW]; exact (Fr0.refl _ _).alloc _
 have hbx : Box W pb (.int .i64 (p : Int)) := by rw [← hW, ← hpb]; exact Box.new _ _ _
 have ht1 := ht.fr0 hf id
 have cs := (hs.fr0 hf id).cell
 have HC := Lib.hid (fun (W' : World) (hf' : Fr0 none' W W') => ContainsFE (cap := cap) E (hE.later (hf.trans hf')) hl hn 18 #[.pointer (some ⟨pb, 0, none⟩), .pointer (some ⟨tb, 0, none⟩)] (fun x => x.to == (p : Int) && decide (x.key.time < t)) (by intro args w; rfl) (fun x W2 hf2 => has_any (hbx.fr0 (hf'.trans hf2) id) (ht1.fr0 (hf'.trans hf2) id) x))
 have HF := Lib.hid hf
 obtain ⟨R, hR⟩ : ∃ R, hasE t E p = R := ⟨_, rfl⟩
 rw [hR]
 have HC := Lib.hid (show ∀ W', Fr0 none' W W' → Calls Tryz.prog 17 #[.slice a n cap, .func (.func 18) #[] #[.pointer (some ⟨pb, 0, none⟩), .pointer (some ⟨tb, 0, none⟩)]] W' fun e w' => e = .returned (.bool R) ∧ Fr0 none' W' w' from by rw [← hR]; exact HC.out)
 clear hf hbx ht1 hs hE ht hR
 go_enter Tryz.func16, Tryz.ntmps16
 have HCW := Lib.hid (HC.out W (Fr0.refl _ _))
 subst hW
 go_wp2_with fail
 refine HCW.out.mono ?_
 rintro e w1 ⟨rfl, hf⟩
 have HFF := Lib.hid (HF.out.trans hf)
 clear hf
 go_wp2_with fail
 go_ret
 exact ⟨rfl, HFF.out⟩
end Go.Proofs.YtmcgipilopfgoaaGreat

/-
  The queue: From, for any number.
-/
namespace Go.Proofs.YtmcgipilopfgoaaGreat
open Go Go.RowKit Go.ChangeMaps
attribute [local go_sem ↓] Go.wp_at_zero Go.wp_at_succ
attribute [local go_sem] Oper.semAt_some wide_fn wide_depth wide_fnR wide_depthR
variable {w w' : World} {qb n T : Nat} {E : List Ev} {ft : Nat → Prop}

set_option maxRecDepth 100000 in
set_option maxHeartbeats 2000000 in
theorem QFromZ_in (h : QIs w qb n T E ft) (k : Key3) (mz : Int) : CallsIn Fence.wide 0 Tryz.prog 34 #[.pointer (some ⟨qb, 0, none⟩), .agg #[.int .i64 k.time, .int .i64 k.source, .int .i64 k.seq], .int .i64 mz] w fun e w' => ∃ v, e = .returned v ∧ w'.ownsRow w.heap.size 28 5 v ((geE k E).take mz.toNat).length (flatEv ((geE k E).take mz.toNat)) ∧ Fr0 none' w w' := by
 obtain ⟨most, hm⟩ : ∃ m, mz.toNat = m := ⟨_, rfl⟩
 rw [hm]
 obtain ⟨i0, hi, hz0, hz1, hz2⟩ := info_parts info_event0
 have H := Lib.hid h
 have HG := Lib.hid h.good
 have HE := Lib.hid h.le
 clear h
 refine callsIn_of_wp_marks Tryz.func34 rfl trivial ?_ rfl
 simp only [Tryz.ntmps34, List.size_toArray, List.length_cons, List.length_nil, Nat.reduceAdd, Nat.reduceSub, Array.replicate_succ, Array.replicate_zero, List.push_toArray, List.append_toArray, List.nil_append, List.cons_append]
 gi_wp2_with fail
 apply wpIn_scope_straight
 gi_wp2_with fail
 apply wpIn_label
 gi_wp2_with fail
 obtain ⟨N0, hN0⟩ : ∃ N0, w.heap.size = N0 := ⟨_, rfl⟩
 obtain ⟨W3, hW3⟩ : ∃ W, ((w.alloc (.cells #[.int .i64 k.time, .int .i64 k.source, .int .i64 k.seq] 26)).alloc (.cells #[.int .i64 mz] 3)).alloc (.cells #[.slice none 0 0] 30) = W := ⟨_, rfl⟩
 have hs1 : (w.alloc (.cells #[.int .i64 k.time, .int .i64 k.source, .int .i64 k.seq] 26)).heap.size = N0 + 1 := by rw [World.size_alloc, hN0]
 have hs2 : ((w.alloc (.cells #[.int .i64 k.time, .int .i64 k.source, .int .i64 k.seq] 26)).alloc (.cells #[.int .i64 mz] 3)).heap.size = N0 + 1 + 1 := by rw [World.size_alloc, hs1]
 have Hs3 := Lib.hid (show W3.heap.size = N0 + 3 by rw [← hW3, World.size_alloc, hs2])
 have F3 := Lib.hid (show Fr0 none' w W3 by rw [← hW3]; exact (((Fr0.refl _ _).alloc _).alloc _).alloc _)
 have HK3 := Lib.hid (show W3.heap[N0]? = some (.cells #[.int .i64 k.time, .int .i64 k.source, .int .i64 k.seq] 26 (0, 0)) by
  rw [← hW3, ← hN0]
  exact ((((Fr0.refl none' (w.alloc (.cells #[.int .i64 k.time, .int .i64 k.source, .int .i64 k.seq] 26))).alloc _).alloc _).block w.heap.size (by rw [World.size_alloc]; omega) id).trans (World.alloc_heap_new w _))
 have HM3 := Lib.hid (show Box W3 (N0 + 1) (.int .i64 mz) by
  rw [← hW3]
  have h1 := Box.new (w.alloc (.cells #[.int .i64 k.time, .int .i64 k.source, .int .i64 k.seq] 26)) (.int .i64 mz) 3
  rw [hs1] at h1
  exact h1.alloc _)
 have HO3 := Lib.hid (show Box W3 (N0 + 1 + 1) (.slice none 0 0) by
  rw [← hW3, ← hs2]
  exact Box.new _ _ _)
 rw [hW3]
 try rw [hN0]
 have HN0 := Lib.hid hN0
 clear hW3 hN0 hs1 hs2
 refine (callsIn_wide.2 (ordered_any qb W3)).mono ?_
 rintro e w4 ⟨rfl, hw4⟩
 rw [Hs3.out]
 obtain ⟨W4, hW4⟩ : ∃ W, W3.alloc (.cells #[.pointer (some ⟨qb, 0, none⟩)] 35) = W := ⟨_, rfl⟩
 rw [hW4] at hw4
 subst hw4
 have F34 := Lib.hid (show Fr0 none' W3 w4 by rw [← hW4]; exact (Fr0.refl _ _).alloc _)
 have Bq4 := Lib.hid (show Box w4 (N0 + 3) (.pointer (some ⟨qb, 0, none⟩)) by rw [← hW4, ← Hs3.out]; exact Box.new _ _ _)
 have Hs4 := Lib.hid (show w4.heap.size = N0 + 4 by rw [← hW4, World.size_alloc, Hs3.out])
 have F4 := Lib.hid (show Fr0 none' w w4 from F3.out.trans F34.out)
 have H4 := Lib.hid (H.out.later F4.out)
 have HK4 := Lib.hid ((F34.out.block N0 (Array.getElem?_eq_some_iff.1 HK3.out).1 id).trans HK3.out)
 have HM4 := Lib.hid (HM3.out.fr0 F34.out id)
 have HO4 := Lib.hid (HO3.out.fr0 F34.out id)
 clear hW4
 obtain ⟨rd, it, hrd⟩ := H4.out.ordered (N0 + 3) Bq4.out
 have Hrd := Lib.hid hrd
 clear hrd
 have hlf := H.out.lt
 gi_wp2_with fail
 refine wpIn_iterS0 (σ := Option Nat) (gf := 69) (lb := #[.pointer (some ⟨N0 + 3, 0, none⟩)]) rfl (by intro args w; rfl) it (Keep.refl _ _) (fun _ => rfl) (fun k hk => hk.elim) (fun k hk => by
   rw [Hs4.out]
   rcases Hrd.out k hk with rfl | h
   ·omega
   ·have := hlf k h
    have := HN0.out
    omega)
  (fun i s W => ∃ v, v.ownBlock = s ∧ Box W (N0 + 1 + 1) v ∧ W.ownsRow (N0 + 6) 28 5 v (geE k (E.take i)).length (flatEv (geE k (E.take i))) ∧ (geE k (E.take i)).length ≤ most ∧ W.heap[N0]? = some (.cells #[.int .i64 k.time, .int .i64 k.source, .int .i64 k.seq] 26 (0, 0)) ∧ Box W (N0 + 1) (.int .i64 mz) ∧ Fr0 none' w W)
  (fun s j => j = N0 + 1 + 1 ∨ s = some j)
  (fun c W => c = .exit 0 ∧ ∃ v, Box W (N0 + 1 + 1) v ∧ W.ownsRow (N0 + 6) 28 5 v ((geE k E).take most).length (flatEv ((geE k E).take most)) ∧ Fr0 none' w W) ?hInv ?hlt ?hIx none ?h0 ?hf0
  (fun (x : Ev) W a' => ∃ B, a' = { tmps := #[.pointer (some ⟨qb, 0, none⟩), .agg #[.int .i64 k.time, .int .i64 k.source, .int .i64 k.seq], .int .i64 mz, undef, .pointer (some ⟨N0, 0, none⟩), .pointer (some ⟨N0 + 1, 0, none⟩), .slice none 0 0, .pointer (some ⟨N0 + 1 + 1, 0, none⟩), .pointer (some ⟨B, 0, none⟩), undef, undef, .pointer (some ⟨qb, 0, none⟩), .func (.func 69) #[] #[.pointer (some ⟨N0 + 3, 0, none⟩)], .agg #[.int .i64 x.key.time, .int .i64 x.key.source, .int .i64 x.key.seq, .int .i64 x.to, .int .i64 x.value], undef, undef, undef, undef, undef, undef, undef, undef, undef, undef, undef, undef, undef, undef, undef, undef, undef, undef], defers := [] } ∧ N0 + 5 < B ∧ W.heap[B]? = some (.cells (cev x).toArray 28 (0, 0)))
  ?assign ?keep ?body ?done ?stop
 case hInv =>
  rintro i s W1 W2 ⟨v, rfl, h2, h3, h4, h5, h6, h7⟩ hf
  rw [Hs4.out] at hf
  refine ⟨v, rfl, h2.fr0 hf (fun hs => hs.2 (.inl rfl)), ownsRow_fr0 h3 hf (fun g hg hs => hs.2 (.inr hg)), h4, (hf.block N0 (Array.getElem?_eq_some_iff.1 h5).1 (fun hs => ?_)).trans h5, h6.fr0 hf (fun hs => ?_), h7.trans' hf (fun j hj hs => ?_)⟩
  ·rcases hs.1 with h | h
   ·exact h
   ·omega
  ·rcases hs.1 with h | h
   ·exact h
   ·omega
  ·rcases hs.1 with h | h
   ·exact h
   ·have := HN0.out; omega
 case hlt =>
  rintro i s W j ⟨v, rfl, h2, h3, h4, h5, h6, h7⟩ (rfl | hk)
  ·exact h2.lt
  ·exact (h3.lt j hk).2
 case hIx =>
  rintro c W1 W2 ⟨h0, v, h1, h2, h3⟩ hf
  rw [Hs4.out] at hf
  have hge : ∀ j, (none' j ∨ j = N0 + 4 ∨ j = N0 + 4 + 1) → j = N0 + 4 ∨ j = N0 + 5 := fun j h => by
   rcases h with h | h | h
   ·exact h.elim
   ·exact .inl h
   ·exact .inr h
  exact ⟨h0, v, h1.fr0 hf (fun h => by have := hge _ h; omega), ownsRow_fr0 h2 hf (fun g hg h => by have := hge _ h; have := (h2.lt g hg).1; omega), h3.trans' hf (fun j hj h => by have := hge _ h; have := HN0.out; omega)⟩
 case h0 => exact ⟨.slice none 0 0, rfl, HO4.out, World.ownsRow_nil _ _ _ _, Nat.zero_le _, HK4.out, HM4.out, F4.out⟩
 case hf0 =>
  rintro j (rfl | hk)
  ·refine ⟨id, fun hr => ?_⟩
   rcases Hrd.out _ hr with h | h
   ·omega
   ·have := hlf _ h
    have := HN0.out
    omega
  ·cases hk
 case assign =>
  intro l x W K hlt hK
  rw [Hs4.out] at hlt
  simp only [evV]
  gi_wp2
  exact hK _ _ ⟨W.heap.size, rfl, by omega, World.alloc_heap_new W _⟩ ((Fr0.refl _ _).alloc _)
 case keep =>
  rintro x W4 W5 a' ⟨B, rfl, hB, hc⟩ hf
  exact ⟨B, rfl, hB, (hf.block B (Array.getElem?_eq_some_iff.1 hc).1 (by rw [Hs4.out]; omega)).trans hc⟩
 case body =>
  rintro l i x s W a' hxi ⟨v, rfl, h2, h3, h4, h5, h6, h7⟩ hfoot hsz ⟨B, rfl, hB, hcB⟩
  have hlt : i < E.length := (List.getElem?_eq_some_iff.1 hxi).1
  have b0 := cells_in hcB 0
  have b1 := cells_in hcB 1
  have b2 := cells_in hcB 2
  have b3 := cells_in hcB 3
  have b4 := cells_in hcB 4
  simp [cev] at b0 b1 b2 b3 b4
  have k0 := cells_in h5 0
  have k1 := cells_in h5 1
  have k2 := cells_in h5 2
  simp at k0 k1 k2
  have cO := h2.cell
  have cM := h6.cell
  obtain ⟨va, vc, rfl, _, _⟩ := EsIn.of_own h3
  obtain ⟨G, hG⟩ : ∃ G, geE k (E.take i) = G := ⟨_, rfl⟩
  rw [hG] at h3 h4 cO h2 ⊢
  obtain ⟨gl, hgl⟩ : ∃ gl, G.length = gl := ⟨_, rfl⟩
  rw [hgl] at h3 h4 cO h2 ⊢
  have hgl9 : gl ≤ 1000 := by
   have h9 := HE.out
   have h8 : (geE k (E.take i)).length ≤ (E.take i).length := List.length_filter_le _ _
   rw [List.length_take] at h8
   rw [hG, hgl] at h8
   omega
  by_cases hfull : most ≤ gl
  ·have d1 : decide ((gl : Int) ≥ mz) = true := decide_eq_true (by omega)
   have d2 : decide (mz ≤ (gl : Int)) = true := decide_eq_true (by omega)
   gi_wp2_with fail
   have hge : gl = most := by omega
   have hrow := h3
   refine ⟨Fr0.refl _ _, rfl, _, h2, ?_, h7⟩
   have hff := ge_full (k := k) (E := E) (i := i) (most := most) (by rw [hG, hgl]; exact hge)
   rw [← List.length_take, hff, hG, hgl]
   exact h3
  ·have d1 : decide ((gl : Int) ≥ mz) = false := decide_eq_false (by omega)
   have d2 : decide (mz ≤ (gl : Int)) = false := decide_eq_false (by omega)
   gi_wp2_with fail
   have hsn := ge_snoc (k := k) (E := E) (i := i) (x := x) hxi
   rw [hG] at hsn
   have HC := Compare_any x.key k W
   simp only [keyV] at HC
   obtain ⟨c, hc⟩ : ∃ c, cmpK x.key k = c := ⟨_, rfl⟩
   rw [hc] at HC hsn
   have Hsn := Lib.hid hsn
   have H3 := Lib.hid h3
   have H7 := Lib.hid h7
   have H5 := Lib.hid h5
   have H6 := Lib.hid h6
   have H2 := Lib.hid h2
   have Hgl := Lib.hid hgl
   have Hsz := Lib.hid hsz
   clear hc hsn h3 h7 h5 h6 h2 hG hgl k0 k1 k2 hxi hsz
   refine (callsIn_wide.2 HC).mono ?_
   rintro e w5 ⟨rfl, hf0⟩
   have hf5 : Fr0 none' W w5 := hf0.to0
   obtain ⟨fv, hfv⟩ : ∃ fv, fieldK x.key k = fv := ⟨_, rfl⟩
   rw [hfv]
   have hcB5 := (hf5.block B (Array.getElem?_eq_some_iff.1 hcB).1 id).trans hcB
   have h25 := H2.out.fr0 hf5 id
   have HRow := Lib.hid (ownsRow_fr0 H3.out hf5 (fun _ _ h => h))
   have h55 := Lib.hid ((hf5.block N0 (Array.getElem?_eq_some_iff.1 H5.out).1 id).trans H5.out)
   have h65 := Lib.hid (H6.out.fr0 hf5 id)
   have h75 := Lib.hid (H7.out.trans hf5)
   have F5 := Lib.hid hf5
   clear hf0 hfv HC b0 b1 b2 b3 b4 cO cM
   have b0 := cells_in hcB5 0
   have b1 := cells_in hcB5 1
   have b2 := cells_in hcB5 2
   have b3 := cells_in hcB5 3
   have b4 := cells_in hcB5 4
   simp [cev] at b0 b1 b2 b3 b4
   have cO := h25.cell
   have cF := h25.frozen
   have H25 := Lib.hid h25
   clear hcB hcB5 hf5 h25
   by_cases hc0 : 0 ≤ c
   ·have dd : decide (c ≥ 0) = true := decide_eq_true hc0
    have dd2 : decide (0 ≤ c) = true := decide_eq_true hc0
    have hsn := Hsn.out
    rw [if_pos hc0] at hsn
    have Hsn := Lib.hid hsn
    have hsrc := Src.newRow (P := Tryz.prog) (size := 5) (tx := 30) (ty := 28) w5 Tryz.underlying30 1 1 (cev x) rfl (by simp [Value.oneCell', cev])
    simp only [cev] at hsrc
    have hbase : N0 + 6 ≤ w5.heap.size := by have := Hsz.out; rw [Hs4.out] at this; have := F5.out.size; omega
    have hgl5 : gl ≤ 1000 := hgl9
    clear hsn hc0
    gi_wp2_with (gi_at_builtin; refine wpListIn_append_k rfl _ _ 30 30 rfl (N0 + 6) 28 i0 (.agg #[.int .i64 0, .int .i64 0, .int .i64 0, .int .i64 0, .int .i64 0]) 5 40 Tryz.underlying30 hi hz0 hz1 hz2 rfl (by decide) (.slice va gl vc) gl _ rfl (ownsRow_fr0 HRow.out ((Fr0.refl none' w5).alloc _) (fun _ _ h => h)) (.slice (some ⟨w5.heap.size, 0, none⟩) 1 1) 1 _ rfl hsrc (by unfold maxLen; omega) (by omega) (by simp; omega) ?_; intro v' w6 hown' hgrow hdr hob; obtain ⟨g', cap', rfl⟩ := ownsRow_k_succ hown'; have hfg := ((Fr0.refl (fun k => (Value.slice va gl vc).ownBlock = some k) w5).alloc _).grown hgrow (fun k hk _ => hk); have hb1 := H25.out.fr0 hfg (fun h => by have := (HRow.out.lt _ h).1; omega); have hc1 := hb1.cell; have hf1 := hb1.frozen)
    have hb2 := hb1.set (.slice (some ⟨g', 0, none⟩) (gl + 1) cap')
    have hf2 := (hfg.mono (S' := fun k => k = N0 + 1 + 1 ∨ (Value.slice va gl vc).ownBlock = some k) (fun k _ h => .inr h)).setCell (b := N0 + 1 + 1) (o := 0) (fun _ => .inl rfl) (.slice (some ⟨g', 0, none⟩) (gl + 1) cap')
    refine ⟨_, ⟨(.slice (some ⟨g', 0, none⟩) (gl + 1) cap'), rfl, hb2, ?_, ?_, ?_, ?_, ?_⟩, (F5.out.mono (fun _ _ h => h.elim)).trans hf2, ?_⟩
    ·have h3 := ownsRow_setCell_below hown' (a := ⟨N0 + 1 + 1, 0, none⟩) (by simp) (.slice (some ⟨g', 0, none⟩) (gl + 1) cap')
     have h4 : flatEv (G ++ [x]) = flatEv G ++ [.int .i64 x.key.time, .int .i64 x.key.source, .int .i64 x.key.seq, .int .i64 x.to, .int .i64 x.value] := by rw [flatEv_append, flatEv_single]; rfl
     rw [Hsn.out, List.length_append, List.length_singleton, Hgl.out, h4]
     exact h3
    ·rw [Hsn.out, List.length_append, List.length_singleton, Hgl.out]
     omega
    ·refine (hf2.block N0 (Array.getElem?_eq_some_iff.1 h55.out).1 (fun hs => ?_)).trans h55.out
     rcases hs with h | h
     ·omega
     ·have := (HRow.out.lt _ h).1; omega
    ·refine h65.out.fr0 hf2 (fun hs => ?_)
     rcases hs with h | h
     ·omega
     ·have := (HRow.out.lt _ h).1; omega
    ·refine h75.out.trans' hf2 (fun j hj hs => ?_)
     rcases hs with h | h
     ·have := HN0.out; omega
     ·have := (HRow.out.lt _ h).1; have := HN0.out; omega
    ·rintro j (rfl | hj)
     ·exact .inl (.inl rfl)
     ·rcases hob with h | h
      ·rw [h] at hj
       exact .inl (.inr hj)
      ·rw [h] at hj
       injection hj with hj
       rw [World.size_alloc] at hj
       have := F5.out.size
       exact .inr (by omega)
   ·have dd : decide (c ≥ 0) = false := decide_eq_false hc0
    have dd2 : decide (0 ≤ c) = false := decide_eq_false hc0
    have hsn := Hsn.out
    rw [if_neg hc0, List.append_nil] at hsn
    have Hsn := Lib.hid hsn
    clear hsn hc0
    gi_wp2_with fail
    refine ⟨_, ⟨.slice va gl vc, rfl, H25.out, ?_, ?_, h55.out, h65.out, h75.out⟩, F5.out.mono (fun _ _ h => h.elim), fun j hj => .inl hj⟩
    ·rw [Hsn.out, Hgl.out]
     exact HRow.out
    ·rw [Hsn.out, Hgl.out]
     omega
 case done =>
  rintro D s W hDe ⟨v, rfl, h2, h3, h4, h5, h6, h7⟩ hDf hK
  rw [Hs4.out] at hDe
  subst hDe
  rw [List.take_length] at h3 h4
  have htk : (geE k E).take most = geE k E := List.take_of_length_le h4
  have hc := h2.cell
  have hfp : Fr0 (fun k => k = N0 + 4) W (W.putObj (N0 + 4) (.deferred none)) := Fr0.putNew _ _ rfl
  have hfin := Lib.hid (show (W.putObj (N0 + 4) (.deferred none)).ownsRow w.heap.size 28 5 v ((geE k E).take most).length (flatEv ((geE k E).take most)) ∧ Fr0 none' w (W.putObj (N0 + 4) (.deferred none)) from ⟨by rw [htk]; exact own_up (ownsRow_fr0 h3 hfp (fun g hg e => by have := (h3.lt g hg).1; omega)) (by have := HN0.out; omega), h7.trans' hfp (fun j hj e => by have := HN0.out; omega)⟩)
  have HK := Lib.hid hK
  clear h2 h3 h4 h5 h6 h7 hDf hK hfp it htk
  gi_wp2
  refine ⟨by simp, .inl ⟨_, _, rfl, run_takeDeferred HK.out, ?_⟩⟩
  refine ⟨_, results_tmp rfl _ _ _, v, rfl, hfin.out⟩
 case stop =>
  rintro D c W hDe ⟨rfl, v, h2, h3, h7⟩ hK
  rw [Hs4.out] at hDe
  subst hDe
  have hc := h2.cell
  have hfp : Fr0 (fun k => k = N0 + 4) W (W.putObj (N0 + 4) (.deferred none)) := Fr0.putNew _ _ rfl
  have hfin := Lib.hid (show (W.putObj (N0 + 4) (.deferred none)).ownsRow w.heap.size 28 5 v ((geE k E).take most).length (flatEv ((geE k E).take most)) ∧ Fr0 none' w (W.putObj (N0 + 4) (.deferred none)) from ⟨own_up (ownsRow_fr0 h3 hfp (fun g hg e => by have := (h3.lt g hg).1; omega)) (by have := HN0.out; omega), h7.trans' hfp (fun j hj e => by have := HN0.out; omega)⟩)
  have HK := Lib.hid hK
  clear h2 h3 h7 hK hfp it
  gi_wp2
  refine ⟨by simp, .inl ⟨_, _, rfl, run_takeDeferred HK.out, ?_⟩⟩
  refine ⟨_, results_tmp rfl _ _ _, v, rfl, hfin.out⟩
theorem QIs.fromZ (h : QIs w qb n T E ft) (k : Key3) (mz : Int) : Calls Tryz.prog 34 #[.pointer (some ⟨qb, 0, none⟩), .agg #[.int .i64 k.time, .int .i64 k.source, .int .i64 k.seq], .int .i64 mz] w fun e w' => ∃ v, e = .returned v ∧ w'.ownsRow w.heap.size 28 5 v ((geE k E).take mz.toNat).length (flatEv ((geE k E).take mz.toNat)) ∧ Fr0 none' w w' := callsIn_wide.1 (QFromZ_in h k mz)
section
variable {w w' : World}
set_option maxRecDepth 100000 in
set_option maxHeartbeats 2000000 in
theorem sameP_any (a a' : Option Addr) (n cap cap' : Nat) (L : List Nat) (w : World) (hn : L.length = n) (hm : n ≤ 1000000) (hc : PsIn w a L) (hc' : PsIn w a' L) :
  Calls Tryz.prog 53 #[.slice a n cap, .slice a' n cap'] w fun e w' => e = .returned (.bool true) ∧ Fr0 none' w w' := by
 have Hn := Lib.hid hn
 have Hc := Lib.hid hc
 have Hc' := Lib.hid hc'
 clear hn hc hc'
 have d0 : ((n : Int) != (n : Int)) = false := by simp
 go_enter Tryz.func53, Tryz.ntmps53
 go_wp2
 clear d0
 go_loopw [13] (fun i wr => ∃ k : Nat, k ≤ n ∧ i = .int .i64 k ∧ Hid (Fr0 none' w wr)) (fun i _ => n - (Go.RowKit.intOf i).toNat)
 case atStart => exact ⟨0, Nat.zero_le _, rfl, Fr0.refl _ _⟩
 case round =>
  obtain ⟨k, hk, rfl, hb⟩ := hrel
  by_cases hlt : k < n
  ·have h1 : k < L.length := by rw [Hn.out]; exact hlt
   obtain ⟨x, hx⟩ : ∃ x, L[k]? = some x := ⟨_, List.getElem?_eq_getElem h1⟩
   obtain ⟨g, rfl, hcx⟩ := Hc.out k x hx
   obtain ⟨g', rfl, hcy⟩ := Hc'.out k x hx
   have z0 := hb.out.later hcx
   have z1 := hb.out.later hcy
   have FW := hb
   clear hx h1 hcx hcy
   have c1 : (0 : Int) ≤ (k : Int) := by omega
   have c2 : (k : Int) < (n : Int) := by omega
   have d1 : ((x : Nat) : Int) == (x : Nat) := by simp
   go_wp2
   go_quiet (fail)

   go_wp2
   refine ⟨⟨k + 1, by omega, by go_num, by first | exact FW | exact ⟨FW.out.os, FW.out.tape, FW.out.output, FW.out.size, FW.out.block⟩⟩, ?_⟩
   simp [Go.RowKit.intOf]; omega
  ·go_wp2
   go_ret
   exact ⟨rfl, hb.out⟩
end
end Go.Proofs.YtmcgipilopfgoaaGreat
