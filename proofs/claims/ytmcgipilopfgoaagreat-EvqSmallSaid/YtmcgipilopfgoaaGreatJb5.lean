/-
  The queue of events: what each function of the package does, and what the laws make of it.
-/
import Derived.Test.YtmcgipilopfgoaaGreatJb3
import Derived.Test.YtmcgipilopfgoaaGreatJb4
import Derived.Test.YtmcgipilopfgoaaGreatJb2
import Derived.Test.YtmcgipilopfgoaaGreatJb1
set_option linter.unusedSimpArgs false
set_option linter.unusedVariables false

/-
  EvqTells: acts: looking.
-/
namespace Go.Proofs.YtmcgipilopfgoaaGreat
open Go Go.RowKit Go.ChangeMaps
attribute [local go_sem ↓] Go.wp_at_zero Go.wp_at_succ
attribute [local go_sem] Oper.semAt_some wide_fn wide_depth wide_fnR wide_depthR
attribute [local go_sem high] run_eql_ev run_neq_ev

set_option maxRecDepth 100000 in
set_option maxHeartbeats 4000000 in
theorem do_7 {w : World} {qb n T m rc lk lc : Nat} {E : List Ev} {ft : Nat → Prop} {ra la : Option Addr} {kd t : Int} {x : Ev} (h : QIs w qb n T E ft) (hT : T ≤ 1000000) (hr : RsK w n E ra rc ft) (hm : E.length = m) (hkd : 0 ≤ kd ∧ kd < 256)
  (hk : kd % 10 = 7) (hx64 : I64 x.key.source ∧ I64 x.key.seq) :
  Calls Tryz.prog 20 #[.pointer (some ⟨qb, 0, none⟩), .agg #[.int .i64 n, .slice ra m rc], actV kd x la lk lc t] w (DoPost n T w ft ra) := by
 have H := Lib.hid h
 have HR := Lib.hid hr
 have Hm := Lib.hid hm
 have hle := h.le
 have hmrc : m ≤ rc := by have := hr.2.1; rw [hm] at this; exact this
 have hm256 : m ≤ 256 := by omega
 have HX64 := Lib.hid hx64
 clear hx64
 unfold actV
 clear h hr hle hm
 go_enter Tryz.func20, Tryz.ntmps20
 go_wp2_with fail
 have hkt : kd.tmod 10 = 7 := by rw [Int.tmod_eq_emod_of_nonneg hkd.1]; exact hk
 clear hk
 obtain ⟨SB, hSB⟩ : ∃ B, w.heap.size = B := ⟨_, rfl⟩
 obtain ⟨W1, hW1⟩ : ∃ W, w.alloc (.cells #[.int .i64 n, .slice ra m rc] 50) = W := ⟨_, rfl⟩
 have hs1 : W1.heap[SB]? = some (.cells #[.int .i64 n, .slice ra m rc] 50 (0, 0)) := by rw [← hW1, ← hSB]; exact World.alloc_heap_new w _
 have f1 : Fr0 none' w W1 := by rw [← hW1]; exact (Fr0.refl _ _).alloc _
 have z1 : W1.heap.size = SB + 1 := by rw [← hW1, World.size_alloc, hSB]
 rw [hW1]
 try rw [hSB]
 obtain ⟨W2, hW2⟩ : ∃ W, W1.alloc (.cells #[.int .u8 kd, .int .i64 x.key.time, .int .i64 x.key.source, .int .i64 x.key.seq, .int .i64 x.to, .int .i64 x.value, .slice la lk lc, .int .i64 t] 32) = W := ⟨_, rfl⟩
 have f2 : Fr0 none' W1 W2 := by rw [← hW2]; exact (Fr0.refl _ _).alloc _
 have hx2 : W2.heap[SB + 1]? = some (.cells #[.int .u8 kd, .int .i64 x.key.time, .int .i64 x.key.source, .int .i64 x.key.seq, .int .i64 x.to, .int .i64 x.value, .slice la lk lc, .int .i64 t] 32 (0, 0)) := by rw [← hW2, ← z1]; exact World.alloc_heap_new W1 _
 have z2 : W2.heap.size = SB + 1 + 1 := by rw [← hW2, World.size_alloc, z1]
 rw [hW2]
 obtain ⟨W3, hW3⟩ : ∃ W, W2.alloc (.cells #[.int .i64 0, .slice none 0 0] 50) = W := ⟨_, rfl⟩
 have f3 : Fr0 none' W2 W3 := by rw [← hW3]; exact (Fr0.refl _ _).alloc _
 have HRB := Lib.hid (show W3.heap[SB + 1 + 1]? = some (.cells #[.int .i64 0, .slice none 0 0] 50 (0, 0)) by rw [← hW3, ← z2]; exact World.alloc_heap_new W2 _)
 have HA := Lib.hid ((f3.block (SB + 1) (Array.getElem?_eq_some_iff.1 hx2).1 id).trans hx2)
 have HS := Lib.hid (((f2.trans f3).block SB (Array.getElem?_eq_some_iff.1 hs1).1 id).trans hs1)
 have HF := Lib.hid ((f1.trans f2).trans f3)
 have HSB := Lib.hid hSB
 have z3 : W3.heap.size = SB + 1 + 1 + 1 := by rw [← hW3, World.size_alloc, z2]
 have Hz3 := Lib.hid z3
 rw [hW3]
 clear hW1 hSB hs1 f1 hW2 f2 f3 hW3 z1 z2 hx2 z3
 have HZ := Lib.hid (fun (W' : World) (hf : Fr0 none' W3 W') => (show W'.cell? ⟨SB + 1, 0, none⟩ = some (.int .u8 kd) ∧ W'.cell? ⟨SB + 1, 1, none⟩ = some (.int .i64 x.key.time) ∧ W'.cell? ⟨SB + 1, 2, none⟩ = some (.int .i64 x.key.source) ∧ W'.cell? ⟨SB + 1, 3, none⟩ = some (.int .i64 x.key.seq) ∧ W'.cell? ⟨SB + 1, 4, none⟩ = some (.int .i64 x.to) ∧ W'.cell? ⟨SB + 1, 5, none⟩ = some (.int .i64 x.value) ∧ W'.cell? ⟨SB + 1, 6, none⟩ = some (.slice la lk lc) ∧ W'.cell? ⟨SB + 1, 7, none⟩ = some (.int .i64 t) from by
  have h1 := (hf.block (SB + 1) (Array.getElem?_eq_some_iff.1 HA.out).1 id).trans HA.out
  refine ⟨?_, ?_, ?_, ?_, ?_, ?_, ?_, ?_⟩ <;> (rw [cells_in h1]; rfl)))
 refine wp_region_held_drew (S := fun W' => Fr0 none' W3 W') (by kernel_rfl) ((Fr0.refl _ W3).drew) (fun hHeld => ?_)
 refine tkn (i := 0) (v := .pointer (some ⟨SB + 1, 0, none⟩)) (fun W' hSW => ?_) ?_
 ·obtain ⟨a0, a1, a2, a3, a4, a5, a6, a7⟩ := HZ.out W' hSW
  first | (go_simp; done) | exact rfl | (go_simp; rfl) | (go_simp; omega)
 try simp only [pUt, pUn, sEt, sEz, sEs]
 refine tkn (i := 1) (v := .int .u8 kd) (fun W' hSW => ?_) ?_
 ·obtain ⟨a0, a1, a2, a3, a4, a5, a6, a7⟩ := HZ.out W' hSW
  first | (go_simp; done) | exact rfl | (go_simp; rfl) | (go_simp; omega)
 try simp only [pUt, pUn, sEt, sEz, sEs]
 refine tkn (i := 2) (v := .int .u8 7) (fun W' hSW => ?_) ?_
 ·obtain ⟨a0, a1, a2, a3, a4, a5, a6, a7⟩ := HZ.out W' hSW
  first | (go_simp; done) | exact rfl | (go_simp; rfl) | (go_simp; omega)
 try simp only [pUt, pUn, sEt, sEz, sEs]
 refine tkn (i := 3) (v := .pointer (some ⟨SB + 1, 1, none⟩)) (fun W' hSW => ?_) ?_
 ·obtain ⟨a0, a1, a2, a3, a4, a5, a6, a7⟩ := HZ.out W' hSW
  first | (go_simp; done) | exact rfl | (go_simp; rfl) | (go_simp; omega)
 try simp only [pUt, pUn, sEt, sEz, sEs]
 refine tkn (i := 4) (v := .pointer (some ⟨SB + 1, 1, none⟩)) (fun W' hSW => ?_) ?_
 ·obtain ⟨a0, a1, a2, a3, a4, a5, a6, a7⟩ := HZ.out W' hSW
  first | (go_simp; done) | exact rfl | (go_simp; rfl) | (go_simp; omega)
 try simp only [pUt, pUn, sEt, sEz, sEs]
 refine tkn (i := 5) (v := .agg #[.int .i64 x.key.time, .int .i64 x.key.source, .int .i64 x.key.seq]) (fun W' hSW => ?_) ?_
 ·obtain ⟨a0, a1, a2, a3, a4, a5, a6, a7⟩ := HZ.out W' hSW
  first | (go_simp; done) | exact rfl | (go_simp; rfl) | (go_simp; omega)
 try simp only [pUt, pUn, sEt, sEz, sEs]
 refine take_call (i := 6) rfl (by kernel_rfl) (by kernel_rfl) (fun K hK => ?_)
 go_simp
 rw [Hz3.out]
 obtain ⟨V1, hV1⟩ : ∃ W, W3.alloc (.cells #[.int .i64 0, .int .i64 0, .int .i64 0] 26) = W := ⟨_, rfl⟩
 have fV : Fr0 none' W3 V1 := by rw [← hV1]; exact (Fr0.refl _ _).alloc _
 have hk1 : V1.heap[SB + 1 + 1 + 1]? = some (.cells #[.int .i64 0, .int .i64 0, .int .i64 0] 26 (0, 0)) := by rw [← hV1, ← Hz3.out]; exact World.alloc_heap_new W3 _
 rw [hV1]
 refine hK.out _ _ fV.drew (fun hS => ?_)
 clear hK K hV1 hHeld
 try simp only [pUt, pUn, sEt, sEz, sEs]
 refine tkn (i := 7) (v := .int .u8 7) (fun W' hSW => ?_) ?_
 ·obtain ⟨a0, a1, a2, a3, a4, a5, a6, a7⟩ := HZ.out W' hSW
  first | (go_simp; done) | exact rfl | (go_simp; rfl) | (go_simp; omega)
 try simp only [pUt, pUn, sEt, sEz, sEs]
 refine take_call (i := 8) rfl (by kernel_rfl) (by kernel_rfl) (fun K hK => ?_)
 have t0 := thaw_in hk1 0
 have t1 := thaw_in hk1 1
 have t2 := thaw_in hk1 2
 have u0 := cells_in hk1 0
 have u1 := cells_in hk1 1
 have u2 := cells_in hk1 2
 simp at u0 u1 u2
 go_simp
 obtain ⟨V2, hV2⟩ : ∃ W, ((V1.setCell ⟨SB + 1 + 1 + 1, 0, none⟩ (.int .i64 x.key.time)).setCell ⟨SB + 1 + 1 + 1, 1, none⟩ (.int .i64 x.key.source)).setCell ⟨SB + 1 + 1 + 1, 2, none⟩ (.int .i64 x.key.seq) = W := ⟨_, rfl⟩
 have hg3 : SB + 1 + 1 + 1 < W3.heap.size → none' (SB + 1 + 1 + 1) := fun e => by have := Hz3.out; omega
 have fV2 : Fr0 none' W3 V2 := by rw [← hV2]; exact ((fV.setCell hg3 _).setCell hg3 _).setCell hg3 _
 have hk2 : V2.heap[SB + 1 + 1 + 1]? = some (.cells #[.int .i64 x.key.time, .int .i64 x.key.source, .int .i64 x.key.seq] 26 (0, 0)) := by rw [← hV2]; exact heap_set_cell (heap_set_cell (heap_set_cell hk1 _) _) _
 rw [hV2]
 refine hK.out _ _ fV2.drew (fun hS => ?_)
 clear hK K hV2 t0 t1 t2 u0 u1 u2 hg3 fV hk1
 try simp only [pUt, pUn, sEt, sEz, sEs]
 refine wpAnyH_done (by kernel_rfl) ?_ _
 obtain ⟨V, hV⟩ : ∃ W, V2.drew = W := ⟨_, rfl⟩
 have fV : Fr0 none' W3 V := by rw [← hV]; exact fV2.drew
 have HK := Lib.hid (show V.heap[SB + 1 + 1 + 1]? = some (.cells #[.int .i64 x.key.time, .int .i64 x.key.source, .int .i64 x.key.seq] 26 (0, 0)) by rw [← hV]; exact hk2)
 have HRB := Lib.hid ((fV.block (SB + 1 + 1) (Array.getElem?_eq_some_iff.1 HRB.out).1 id).trans HRB.out)
 have HA := Lib.hid ((fV.block (SB + 1) (Array.getElem?_eq_some_iff.1 HA.out).1 id).trans HA.out)
 have HS := Lib.hid ((fV.block SB (Array.getElem?_eq_some_iff.1 HS.out).1 id).trans HS.out)
 have HF := Lib.hid (HF.out.trans fV)
 rw [hV]
 clear hV hk2 fV2 fV HZ Hz3 hS
 clear hkt
 have a0 := cells_in HA.out 0
 have a1 := cells_in HA.out 1
 have a2 := cells_in HA.out 2
 have a3 := cells_in HA.out 3
 have a4 := cells_in HA.out 4
 have a5 := cells_in HA.out 5
 have a6 := cells_in HA.out 6
 have a7 := cells_in HA.out 7
 have s0 := cells_in HS.out 0
 have s1 := cells_in HS.out 1
 have k0 := cells_in HK.out 0
 have k1 := cells_in HK.out 1
 have k2 := cells_in HK.out 2
 simp at a0 a1 a2 a3 a4 a5 a6 a7 s0 s1 k0 k1 k2
 go_wp2_with fail
 have HKv := HK
 have Hft := Lib.hid (show ∀ k, ft k → k < SB from fun k hk => by have := H.out.lt k hk; have := HSB.out; omega)
 have HFv := HF
 have HP := (H.out.later HF.out).find (nm := (x.key.source, x.key.seq)) HX64.out.1 HX64.out.2
 obtain ⟨X, hX⟩ : ∃ X, (findE (x.key.source, x.key.seq) E).getD zeroEv = X := ⟨_, rfl⟩
 obtain ⟨c, hc⟩ : ∃ c : Bool, (findE (x.key.source, x.key.seq) E).isSome = c := ⟨_, rfl⟩
 rw [hX, hc] at HP
 have HX := Lib.hid hX
 have Hc := Lib.hid hc
 unfold evV at HP
 refine HP.mono ?_
 rintro e w5 ⟨rfl, hf5⟩
 clear a0 a1 a2 a3 a4 a5 a6 a7 s0 s1 k0 k1 k2
 have HK := Lib.hid ((hf5.block (SB + 1 + 1 + 1) (Array.getElem?_eq_some_iff.1 HK.out).1 id).trans HK.out)
 have HRB := Lib.hid ((hf5.block (SB + 1 + 1) (Array.getElem?_eq_some_iff.1 HRB.out).1 id).trans HRB.out)
 have HA := Lib.hid ((hf5.block (SB + 1) (Array.getElem?_eq_some_iff.1 HA.out).1 id).trans HA.out)
 have HS := Lib.hid ((hf5.block SB (Array.getElem?_eq_some_iff.1 HS.out).1 id).trans HS.out)
 have F5 := Lib.hid (show Fr0 none' w w5 from HF.out.trans hf5)
 clear HP hf5 hc hX
 obtain ⟨XB, hXB⟩ : ∃ b, w5.heap.size = b := ⟨_, rfl⟩
 obtain ⟨V5, hV5⟩ : ∃ W, w5.alloc (.cells #[.int .i64 X.key.time, .int .i64 X.key.source, .int .i64 X.key.seq, .int .i64 X.to, .int .i64 X.value] 28) = W := ⟨_, rfl⟩
 have hf : Fr0 none' w5 V5 := by rw [← hV5]; exact (Fr0.refl _ _).alloc _
 have HXB := Lib.hid (show V5.heap[XB]? = some (.cells (cev X).toArray 28 (0, 0)) by rw [← hV5, ← hXB]; exact World.alloc_heap_new _ _)
 have HKb := Lib.hid (show SB + 1 + 1 + 1 < XB by rw [← hXB]; exact (Array.getElem?_eq_some_iff.1 HK.out).1)
 have HK := Lib.hid ((hf.block (SB + 1 + 1 + 1) (Array.getElem?_eq_some_iff.1 HK.out).1 id).trans HK.out)
 have HRB := Lib.hid ((hf.block (SB + 1 + 1) (Array.getElem?_eq_some_iff.1 HRB.out).1 id).trans HRB.out)
 have HA := Lib.hid ((hf.block (SB + 1) (Array.getElem?_eq_some_iff.1 HA.out).1 id).trans HA.out)
 have HS := Lib.hid ((hf.block SB (Array.getElem?_eq_some_iff.1 HS.out).1 id).trans HS.out)
 have F6 := Lib.hid (F5.out.trans hf)
 clear hf
 have a0 := cells_in HA.out 0
 have a1 := cells_in HA.out 1
 have a2 := cells_in HA.out 2
 have a3 := cells_in HA.out 3
 have a4 := cells_in HA.out 4
 have a5 := cells_in HA.out 5
 have a6 := cells_in HA.out 6
 have a7 := cells_in HA.out 7
 have s0 := cells_in HS.out 0
 have s1 := cells_in HS.out 1
 have k0 := cells_in HK.out 0
 have k1 := cells_in HK.out 1
 have k2 := cells_in HK.out 2
 simp at a0 a1 a2 a3 a4 a5 a6 a7 s0 s1 k0 k1 k2
 subst hV5
 go_wp2_with fail
 have hPr := rFind_any (cap := rc) (n : Int) E (HR.out.1.later F6.out) Hm.out (by omega) (x.key.source, x.key.seq)
 rw [show (⟨⟨0, 0, 0⟩, 0, 0⟩ : Ev) = zeroEv from rfl, HX.out, Hc.out] at hPr
 unfold evV at hPr
 refine hPr.mono ?_
 rintro e w6 ⟨rfl, hf⟩
 clear a0 a1 a2 a3 a4 a5 a6 a7 s0 s1 k0 k1 k2
 have HK := Lib.hid ((hf.block (SB + 1 + 1 + 1) (Array.getElem?_eq_some_iff.1 HK.out).1 id).trans HK.out)
 have HRB := Lib.hid ((hf.block (SB + 1 + 1) (Array.getElem?_eq_some_iff.1 HRB.out).1 id).trans HRB.out)
 have HA := Lib.hid ((hf.block (SB + 1) (Array.getElem?_eq_some_iff.1 HA.out).1 id).trans HA.out)
 have HS := Lib.hid ((hf.block SB (Array.getElem?_eq_some_iff.1 HS.out).1 id).trans HS.out)
 have HXB := Lib.hid ((hf.block XB (Array.getElem?_eq_some_iff.1 HXB.out).1 id).trans HXB.out)
 have F6 := Lib.hid (F6.out.trans hf)
 have HXs := Lib.hid (show XB < w6.heap.size from (Array.getElem?_eq_some_iff.1 HXB.out).1)
 clear hPr hf
 go_wp2_with fail
 obtain ⟨YB, hYB⟩ : ∃ b, w6.heap.size = b := ⟨_, rfl⟩
 obtain ⟨W7, hW7⟩ : ∃ W, w6.alloc (.cells #[.int .i64 X.key.time, .int .i64 X.key.source, .int .i64 X.key.seq, .int .i64 X.to, .int .i64 X.value] 28) = W := ⟨_, rfl⟩
 have hf : Fr0 none' w6 W7 := by rw [← hW7]; exact (Fr0.refl _ _).alloc _
 have HYB := Lib.hid (show W7.heap[YB]? = some (.cells (cev X).toArray 28 (0, 0)) by rw [← hW7, ← hYB]; exact World.alloc_heap_new _ _)
 have HK := Lib.hid ((hf.block (SB + 1 + 1 + 1) (Array.getElem?_eq_some_iff.1 HK.out).1 id).trans HK.out)
 have HRB := Lib.hid ((hf.block (SB + 1 + 1) (Array.getElem?_eq_some_iff.1 HRB.out).1 id).trans HRB.out)
 have HA := Lib.hid ((hf.block (SB + 1) (Array.getElem?_eq_some_iff.1 HA.out).1 id).trans HA.out)
 have HS := Lib.hid ((hf.block SB (Array.getElem?_eq_some_iff.1 HS.out).1 id).trans HS.out)
 have HXB := Lib.hid ((hf.block XB (Array.getElem?_eq_some_iff.1 HXB.out).1 id).trans HXB.out)
 have F7 := Lib.hid (F6.out.trans hf)
 rw [hW7]
 try rw [hYB]
 have HXY := Lib.hid (show SB + 1 + 1 + 1 < XB ∧ XB < YB from ⟨by have := HKb.out; omega, by have := HXs.out; omega⟩)
 clear hf hW7 hYB
 have a0 := cells_in HA.out 0
 have a1 := cells_in HA.out 1
 have a2 := cells_in HA.out 2
 have a3 := cells_in HA.out 3
 have a4 := cells_in HA.out 4
 have a5 := cells_in HA.out 5
 have a6 := cells_in HA.out 6
 have a7 := cells_in HA.out 7
 have s0 := cells_in HS.out 0
 have s1 := cells_in HS.out 1
 have k0 := cells_in HK.out 0
 have k1 := cells_in HK.out 1
 have k2 := cells_in HK.out 2
 simp at a0 a1 a2 a3 a4 a5 a6 a7 s0 s1 k0 k1 k2
 have x0 := cells_in HXB.out 0
 have x1 := cells_in HXB.out 1
 have x2 := cells_in HXB.out 2
 have x3 := cells_in HXB.out 3
 have x4 := cells_in HXB.out 4
 have y0 := cells_in HYB.out 0
 have y1 := cells_in HYB.out 1
 have y2 := cells_in HYB.out 2
 have y3 := cells_in HYB.out 3
 have y4 := cells_in HYB.out 4
 simp [cev] at x0 x1 x2 x3 x4 y0 y1 y2 y3 y4
 go_wp2_with fail
 have HY := Lib.hid (fun (W' : World) (hf : Fr0 (fun k => k = SB + 1 + 1) W7 W') => (show (W'.cell? ⟨SB, 0, none⟩ = some (.int .i64 n) ∧ W'.cell? ⟨SB, 1, none⟩ = some (.slice ra m rc)) ∧ W'.cell? ⟨SB + 1, 7, none⟩ = some (.int .i64 t) ∧ (W'.cell? ⟨SB + 1 + 1 + 1, 0, none⟩ = some (.int .i64 x.key.time) ∧ W'.cell? ⟨SB + 1 + 1 + 1, 1, none⟩ = some (.int .i64 x.key.source) ∧ W'.cell? ⟨SB + 1 + 1 + 1, 2, none⟩ = some (.int .i64 x.key.seq)) ∧ (W'.cell? ⟨XB, 0, none⟩ = some (.int .i64 X.key.time) ∧ W'.cell? ⟨XB, 1, none⟩ = some (.int .i64 X.key.source) ∧ W'.cell? ⟨XB, 2, none⟩ = some (.int .i64 X.key.seq) ∧ W'.cell? ⟨XB, 3, none⟩ = some (.int .i64 X.to) ∧ W'.cell? ⟨XB, 4, none⟩ = some (.int .i64 X.value)) ∧ W'.cell? ⟨YB, 0, none⟩ = some (.int .i64 X.key.time) ∧ W'.cell? ⟨YB, 1, none⟩ = some (.int .i64 X.key.source) ∧ W'.cell? ⟨YB, 2, none⟩ = some (.int .i64 X.key.seq) ∧ W'.cell? ⟨YB, 3, none⟩ = some (.int .i64 X.to) ∧ W'.cell? ⟨YB, 4, none⟩ = some (.int .i64 X.value) from by
  have hq := HXY.out
  have h1 := (hf.block (SB + 1) (Array.getElem?_eq_some_iff.1 HA.out).1 (fun e => by omega)).trans HA.out
  have h2 := (hf.block SB (Array.getElem?_eq_some_iff.1 HS.out).1 (fun e => by omega)).trans HS.out
  have h3 := (hf.block (SB + 1 + 1 + 1) (Array.getElem?_eq_some_iff.1 HK.out).1 (fun e => by omega)).trans HK.out
  have h4 := (hf.block XB (Array.getElem?_eq_some_iff.1 HXB.out).1 (fun e => by omega)).trans HXB.out
  have h5 := (hf.block YB (Array.getElem?_eq_some_iff.1 HYB.out).1 (fun e => by omega)).trans HYB.out
  refine ⟨⟨?_, ?_⟩, ?_, ⟨?_, ?_, ?_⟩, ⟨?_, ?_, ?_, ?_, ?_⟩, ?_, ?_, ?_, ?_, ?_⟩
  ·rw [cells_in h2]; rfl
  ·rw [cells_in h2]; rfl
  ·rw [cells_in h1]; rfl
  ·rw [cells_in h3]; rfl
  ·rw [cells_in h3]; rfl
  ·rw [cells_in h3]; rfl
  iterate 5 (· rw [cells_in h4]; rfl)
  iterate 5 (· rw [cells_in h5]; rfl)))
 have HQ7 := Lib.hid (H.out.later F7.out)
 have HRE := Lib.hid (HR.out.1.later F7.out)
 have hn7 : Fr0 none' W7 W7.drew := (Fr0.refl none' W7).drew
 have hgl : ((geE x.key E).take t.toNat).length ≤ 256 := by
  have h1 : (geE x.key E).length ≤ E.length := List.length_filter_le _ _
  have := Hm.out
  rw [List.length_take]
  omega
 have hrl := rdy_len t E 17
 have HF1 := Lib.hid (fun (W : World) (hf : Fr0 none' W7 W) => (HQ7.out.later hf).fromZ x.key t)
 have HF2 := Lib.hid (fun (W : World) (hf : Fr0 none' W7 W) => rFrom_any (cap := rc) (n : Int) E (HRE.out.later hf) Hm.out (by omega) x.key t)
 have HY1 := Lib.hid (fun (W : World) (hf : Fr0 none' W7 W) => (HQ7.out.later hf).ready t)
 have HY2 := Lib.hid (fun (W : World) (hf : Fr0 none' W7 W) => rReady_any (cap := rc) (n : Int) E (HRE.out.later hf) Hm.out (by omega) t)
 obtain ⟨G, hG⟩ : ∃ G, (geE x.key E).take t.toNat = G := ⟨_, rfl⟩
 obtain ⟨D, hD⟩ : ∃ D, rdyE t E 17 = D := ⟨_, rfl⟩
 rw [hG] at HF1 HF2 hgl
 rw [hD] at HY1 HY2 hrl
 obtain ⟨gl, hgn⟩ : ∃ g, G.length = g := ⟨_, rfl⟩
 obtain ⟨dl, hdn⟩ : ∃ g, D.length = g := ⟨_, rfl⟩
 rw [hgn] at HF1 HF2 hgl
 rw [hdn] at HY1 HY2 hrl
 have Hgn := Lib.hid hgn
 have Hdn := Lib.hid hdn
 clear hG hD hgn hdn
 refine wp_region_held_drew (S := fun W' => Fr0 (fun k => k = SB + 1 + 1) W7 W') (by kernel_rfl) ((Fr0.refl _ W7).drew) (fun hHeld => ?_)
 refine tkn (i := 0) (v := .pointer (some ⟨qb, 0, none⟩)) (fun W' hSW => ?_) ?_
 ·obtain ⟨⟨s0, s1⟩, a7, ⟨k0, k1, k2⟩, ⟨x0, x1, x2, x3, x4⟩, y0, y1, y2, y3, y4⟩ := HY.out W' hSW
  first | (go_simp; done) | exact rfl | (go_simp; rfl) | (go_simp; omega)
 try simp only [pUt, pUn, sEt, sEz, sEs]
 refine tkn (i := 1) (v := .agg #[.int .i64 n, .slice ra m rc]) (fun W' hSW => ?_) ?_
 ·obtain ⟨⟨s0, s1⟩, a7, ⟨k0, k1, k2⟩, ⟨x0, x1, x2, x3, x4⟩, y0, y1, y2, y3, y4⟩ := HY.out W' hSW
  first | (go_simp; done) | exact rfl | (go_simp; rfl) | (go_simp; omega)
 try simp only [pUt, pUn, sEt, sEz, sEs]
 refine tkn (i := 2) (v := .agg #[.int .i64 X.key.time, .int .i64 X.key.source, .int .i64 X.key.seq, .int .i64 X.to, .int .i64 X.value]) (fun W' hSW => ?_) ?_
 ·obtain ⟨⟨s0, s1⟩, a7, ⟨k0, k1, k2⟩, ⟨x0, x1, x2, x3, x4⟩, y0, y1, y2, y3, y4⟩ := HY.out W' hSW
  first | (go_simp; done) | exact rfl | (go_simp; rfl) | (go_simp; omega)
 try simp only [pUt, pUn, sEt, sEz, sEs]
 refine tkn (i := 3) (v := .agg #[.int .i64 X.key.time, .int .i64 X.key.source, .int .i64 X.key.seq, .int .i64 X.to, .int .i64 X.value]) (fun W' hSW => ?_) ?_
 ·obtain ⟨⟨s0, s1⟩, a7, ⟨k0, k1, k2⟩, ⟨x0, x1, x2, x3, x4⟩, y0, y1, y2, y3, y4⟩ := HY.out W' hSW
  first | (go_simp; done) | exact rfl | (go_simp; rfl) | (go_simp; omega)
 try simp only [pUt, pUn, sEt, sEz, sEs]
 refine tkn (i := 4) (v := .bool true) (fun W' hSW => ?_) ?_
 ·obtain ⟨⟨s0, s1⟩, a7, ⟨k0, k1, k2⟩, ⟨x0, x1, x2, x3, x4⟩, y0, y1, y2, y3, y4⟩ := HY.out W' hSW
  first | (go_simp; done) | exact rfl | (go_simp; rfl) | (go_simp; omega)
 try simp only [pUt, pUn, sEt, sEz, sEs]
 refine tkn (i := 5) (v := .bool true) (fun W' hSW => ?_) ?_
 ·obtain ⟨⟨s0, s1⟩, a7, ⟨k0, k1, k2⟩, ⟨x0, x1, x2, x3, x4⟩, y0, y1, y2, y3, y4⟩ := HY.out W' hSW
  first | (go_simp; done) | exact rfl | (go_simp; rfl) | (go_simp; omega)
 try simp only [pUt, pUn, sEt, sEz, sEs]
 refine tkn (i := 6) (v := .bool c) (fun W' hSW => ?_) ?_
 ·obtain ⟨⟨s0, s1⟩, a7, ⟨k0, k1, k2⟩, ⟨x0, x1, x2, x3, x4⟩, y0, y1, y2, y3, y4⟩ := HY.out W' hSW
  first | (go_simp; done) | exact rfl | (go_simp; rfl) | (go_simp; omega)
 try simp only [pUt, pUn, sEt, sEz, sEs]
 refine tkn (i := 7) (v := .bool c) (fun W' hSW => ?_) ?_
 ·obtain ⟨⟨s0, s1⟩, a7, ⟨k0, k1, k2⟩, ⟨x0, x1, x2, x3, x4⟩, y0, y1, y2, y3, y4⟩ := HY.out W' hSW
  first | (go_simp; done) | exact rfl | (go_simp; rfl) | (go_simp; omega)
 try simp only [pUt, pUn, sEt, sEz, sEs]
 refine tkn (i := 8) (v := .bool true) (fun W' hSW => ?_) ?_
 ·obtain ⟨⟨s0, s1⟩, a7, ⟨k0, k1, k2⟩, ⟨x0, x1, x2, x3, x4⟩, y0, y1, y2, y3, y4⟩ := HY.out W' hSW
  first | (go_simp; done) | exact rfl | (go_simp; rfl) | (go_simp; omega)
 try simp only [pUt, pUn, sEt, sEz, sEs]
 refine tkn (i := 9) (v := .bool true) (fun W' hSW => ?_) ?_
 ·obtain ⟨⟨s0, s1⟩, a7, ⟨k0, k1, k2⟩, ⟨x0, x1, x2, x3, x4⟩, y0, y1, y2, y3, y4⟩ := HY.out W' hSW
  first | (go_simp; done) | exact rfl | (go_simp; rfl) | (go_simp; omega)
 try simp only [pUt, pUn, sEt, sEz, sEs]
 refine tkn (i := 10) (v := .bool true) (fun W' hSW => ?_) ?_
 ·obtain ⟨⟨s0, s1⟩, a7, ⟨k0, k1, k2⟩, ⟨x0, x1, x2, x3, x4⟩, y0, y1, y2, y3, y4⟩ := HY.out W' hSW
  first | (go_simp; done) | exact rfl | (go_simp; rfl) | (go_simp; omega)
 try simp only [pUt, pUn, sEt, sEz, sEs]
 refine tkn (i := 11) (v := .pointer (some ⟨qb, 0, none⟩)) (fun W' hSW => ?_) ?_
 ·obtain ⟨⟨s0, s1⟩, a7, ⟨k0, k1, k2⟩, ⟨x0, x1, x2, x3, x4⟩, y0, y1, y2, y3, y4⟩ := HY.out W' hSW
  first | (go_simp; done) | exact rfl | (go_simp; rfl) | (go_simp; omega)
 try simp only [pUt, pUn, sEt, sEz, sEs]
 refine tkn (i := 12) (v := .agg #[.int .i64 x.key.time, .int .i64 x.key.source, .int .i64 x.key.seq]) (fun W' hSW => ?_) ?_
 ·obtain ⟨⟨s0, s1⟩, a7, ⟨k0, k1, k2⟩, ⟨x0, x1, x2, x3, x4⟩, y0, y1, y2, y3, y4⟩ := HY.out W' hSW
  first | (go_simp; done) | exact rfl | (go_simp; rfl) | (go_simp; omega)
 try simp only [pUt, pUn, sEt, sEz, sEs]
 refine tkn (i := 13) (v := .pointer (some ⟨SB + 1, 7, none⟩)) (fun W' hSW => ?_) ?_
 ·obtain ⟨⟨s0, s1⟩, a7, ⟨k0, k1, k2⟩, ⟨x0, x1, x2, x3, x4⟩, y0, y1, y2, y3, y4⟩ := HY.out W' hSW
  first | (go_simp; done) | exact rfl | (go_simp; rfl) | (go_simp; omega)
 try simp only [pUt, pUn, sEt, sEz, sEs]
 refine tkn (i := 14) (v := .int .i64 t) (fun W' hSW => ?_) ?_
 ·obtain ⟨⟨s0, s1⟩, a7, ⟨k0, k1, k2⟩, ⟨x0, x1, x2, x3, x4⟩, y0, y1, y2, y3, y4⟩ := HY.out W' hSW
  first | (go_simp; done) | exact rfl | (go_simp; rfl) | (go_simp; omega)
 try simp only [pUt, pUn, sEt, sEz, sEs]
 refine tkn (i := 16) (v := .agg #[.int .i64 n, .slice ra m rc]) (fun W' hSW => ?_) ?_
 ·obtain ⟨⟨s0, s1⟩, a7, ⟨k0, k1, k2⟩, ⟨x0, x1, x2, x3, x4⟩, y0, y1, y2, y3, y4⟩ := HY.out W' hSW
  first | (go_simp; done) | exact rfl | (go_simp; rfl) | (go_simp; omega)
 try simp only [pUt, pUn, sEt, sEz, sEs]
 refine tkn (i := 17) (v := .agg #[.int .i64 x.key.time, .int .i64 x.key.source, .int .i64 x.key.seq]) (fun W' hSW => ?_) ?_
 ·obtain ⟨⟨s0, s1⟩, a7, ⟨k0, k1, k2⟩, ⟨x0, x1, x2, x3, x4⟩, y0, y1, y2, y3, y4⟩ := HY.out W' hSW
  first | (go_simp; done) | exact rfl | (go_simp; rfl) | (go_simp; omega)
 try simp only [pUt, pUn, sEt, sEz, sEs]
 refine tkn (i := 18) (v := .pointer (some ⟨SB + 1, 7, none⟩)) (fun W' hSW => ?_) ?_
 ·obtain ⟨⟨s0, s1⟩, a7, ⟨k0, k1, k2⟩, ⟨x0, x1, x2, x3, x4⟩, y0, y1, y2, y3, y4⟩ := HY.out W' hSW
  first | (go_simp; done) | exact rfl | (go_simp; rfl) | (go_simp; omega)
 try simp only [pUt, pUn, sEt, sEz, sEs]
 refine tkn (i := 19) (v := .int .i64 t) (fun W' hSW => ?_) ?_
 ·obtain ⟨⟨s0, s1⟩, a7, ⟨k0, k1, k2⟩, ⟨x0, x1, x2, x3, x4⟩, y0, y1, y2, y3, y4⟩ := HY.out W' hSW
  first | (go_simp; done) | exact rfl | (go_simp; rfl) | (go_simp; omega)
 try simp only [pUt, pUn, sEt, sEz, sEs]
 refine take_call (i := 15) rfl (by kernel_rfl) (by kernel_rfl) (fun K hK => ?_)
 go_simp
 refine (HF1.out _ hn7).mono ?_
 rintro e w8 ⟨v, rfl, hrow, hf⟩
 obtain ⟨a1, c1, rfl, _, he1⟩ := EsIn.of_own hrow
 clear hrow
 have f8 : Fr0 none' W7 w8 := hn7.trans hf
 clear hf
 go_wp2_with fail
 refine hK.out _ _ (f8.mono (fun _ _ h => h.elim)) (fun hS => ?_)
 clear hK K
 try simp only [pUt, pUn, sEt, sEz, sEs]
 refine take_call (i := 20) rfl (by kernel_rfl) (by kernel_rfl) (fun K hK => ?_)
 go_simp
 refine (HF2.out _ f8).mono ?_
 rintro e w9 ⟨v, rfl, hrow, hf⟩
 obtain ⟨a2, c2, rfl, _, he2⟩ := EsIn.of_own hrow
 have he1 := he1.later hf
 clear hrow
 have f9 : Fr0 none' W7 w9 := f8.trans hf
 clear hf
 go_wp2_with fail
 refine hK.out _ _ (f9.mono (fun _ _ h => h.elim)) (fun hS => ?_)
 clear hK K
 try simp only [pUt, pUn, sEt, sEz, sEs]
 refine take_call (i := 21) rfl (by kernel_rfl) (by kernel_rfl) (fun K hK => ?_)
 go_simp
 refine (sameEs_any a1 a2 _ _ c1 c2 G G _ Hgn.out Hgn.out (by omega) (by omega) he1 he2).mono ?_
 rintro e wa ⟨hr, hf⟩
 rw [decide_eq_true rfl] at hr
 subst hr
 have fa : Fr0 none' W7 wa := f9.trans hf
 clear hf
 go_wp2_with fail
 refine hK.out _ _ (fa.mono (fun _ _ h => h.elim)) (fun hS => ?_)
 clear hK K
 try simp only [pUt, pUn, sEt, sEz, sEs]
 refine tkn (i := 22) (v := .bool true) (fun W' hSW => ?_) ?_
 ·obtain ⟨⟨s0, s1⟩, a7, ⟨k0, k1, k2⟩, ⟨x0, x1, x2, x3, x4⟩, y0, y1, y2, y3, y4⟩ := HY.out W' hSW
  first | (go_simp; done) | exact rfl | (go_simp; rfl) | (go_simp; omega)
 try simp only [pUt, pUn, sEt, sEz, sEs]
 refine tkn (i := 23) (v := .bool true) (fun W' hSW => ?_) ?_
 ·obtain ⟨⟨s0, s1⟩, a7, ⟨k0, k1, k2⟩, ⟨x0, x1, x2, x3, x4⟩, y0, y1, y2, y3, y4⟩ := HY.out W' hSW
  first | (go_simp; done) | exact rfl | (go_simp; rfl) | (go_simp; omega)
 try simp only [pUt, pUn, sEt, sEz, sEs]
 refine tkn (i := 24) (v := .pointer (some ⟨qb, 0, none⟩)) (fun W' hSW => ?_) ?_
 ·obtain ⟨⟨s0, s1⟩, a7, ⟨k0, k1, k2⟩, ⟨x0, x1, x2, x3, x4⟩, y0, y1, y2, y3, y4⟩ := HY.out W' hSW
  first | (go_simp; done) | exact rfl | (go_simp; rfl) | (go_simp; omega)
 try simp only [pUt, pUn, sEt, sEz, sEs]
 refine tkn (i := 25) (v := .pointer (some ⟨SB + 1, 7, none⟩)) (fun W' hSW => ?_) ?_
 ·obtain ⟨⟨s0, s1⟩, a7, ⟨k0, k1, k2⟩, ⟨x0, x1, x2, x3, x4⟩, y0, y1, y2, y3, y4⟩ := HY.out W' hSW
  first | (go_simp; done) | exact rfl | (go_simp; rfl) | (go_simp; omega)
 try simp only [pUt, pUn, sEt, sEz, sEs]
 refine tkn (i := 26) (v := .int .i64 t) (fun W' hSW => ?_) ?_
 ·obtain ⟨⟨s0, s1⟩, a7, ⟨k0, k1, k2⟩, ⟨x0, x1, x2, x3, x4⟩, y0, y1, y2, y3, y4⟩ := HY.out W' hSW
  first | (go_simp; done) | exact rfl | (go_simp; rfl) | (go_simp; omega)
 try simp only [pUt, pUn, sEt, sEz, sEs]
 refine tkn (i := 28) (v := .agg #[.int .i64 n, .slice ra m rc]) (fun W' hSW => ?_) ?_
 ·obtain ⟨⟨s0, s1⟩, a7, ⟨k0, k1, k2⟩, ⟨x0, x1, x2, x3, x4⟩, y0, y1, y2, y3, y4⟩ := HY.out W' hSW
  first | (go_simp; done) | exact rfl | (go_simp; rfl) | (go_simp; omega)
 try simp only [pUt, pUn, sEt, sEz, sEs]
 refine tkn (i := 29) (v := .pointer (some ⟨SB + 1, 7, none⟩)) (fun W' hSW => ?_) ?_
 ·obtain ⟨⟨s0, s1⟩, a7, ⟨k0, k1, k2⟩, ⟨x0, x1, x2, x3, x4⟩, y0, y1, y2, y3, y4⟩ := HY.out W' hSW
  first | (go_simp; done) | exact rfl | (go_simp; rfl) | (go_simp; omega)
 try simp only [pUt, pUn, sEt, sEz, sEs]
 refine tkn (i := 30) (v := .int .i64 t) (fun W' hSW => ?_) ?_
 ·obtain ⟨⟨s0, s1⟩, a7, ⟨k0, k1, k2⟩, ⟨x0, x1, x2, x3, x4⟩, y0, y1, y2, y3, y4⟩ := HY.out W' hSW
  first | (go_simp; done) | exact rfl | (go_simp; rfl) | (go_simp; omega)
 try simp only [pUt, pUn, sEt, sEz, sEs]
 refine take_call (i := 27) rfl (by kernel_rfl) (by kernel_rfl) (fun K hK => ?_)
 go_simp
 refine (HY1.out _ fa).mono ?_
 rintro e wb ⟨v, rfl, hrow, hf⟩
 obtain ⟨a3, c3, rfl, _, he3⟩ := PsIn.of_own hrow
 clear hrow
 have fb : Fr0 none' W7 wb := fa.trans hf
 clear hf
 go_wp2_with fail
 refine hK.out _ _ (fb.mono (fun _ _ h => h.elim)) (fun hS => ?_)
 clear hK K
 try simp only [pUt, pUn, sEt, sEz, sEs]
 refine take_call (i := 31) rfl (by kernel_rfl) (by kernel_rfl) (fun K hK => ?_)
 go_simp
 refine (HY2.out _ fb).mono ?_
 rintro e wc ⟨v, rfl, hrow, hf⟩
 obtain ⟨a4, c4, rfl, _, he4⟩ := PsIn.of_own hrow
 have he3 := he3.later hf
 clear hrow
 have fc : Fr0 none' W7 wc := fb.trans hf
 clear hf
 go_wp2_with fail
 refine hK.out _ _ (fc.mono (fun _ _ h => h.elim)) (fun hS => ?_)
 clear hK K
 try simp only [pUt, pUn, sEt, sEz, sEs]
 refine take_call (i := 32) rfl (by kernel_rfl) (by kernel_rfl) (fun K hK => ?_)
 go_simp
 refine (sameP_any a3 a4 _ c3 c4 D _ Hdn.out (by omega) he3 he4).mono ?_
 rintro e wd ⟨rfl, hf⟩
 have fd : Fr0 none' W7 wd := fc.trans hf
 clear hf
 go_wp2_with fail
 refine hK.out _ _ (fd.mono (fun _ _ h => h.elim)) (fun hS => ?_)
 clear hK K
 try simp only [pUt, pUn, sEt, sEz, sEs]
 refine tkn (i := 33) (v := .bool true) (fun W' hSW => ?_) ?_
 ·obtain ⟨⟨s0, s1⟩, a7, ⟨k0, k1, k2⟩, ⟨x0, x1, x2, x3, x4⟩, y0, y1, y2, y3, y4⟩ := HY.out W' hSW
  first | (go_simp; done) | exact rfl | (go_simp; rfl) | (go_simp; omega)
 try simp only [pUt, pUn, sEt, sEz, sEs]
 refine tkn (i := 34) (v := .pointer (some ⟨qb, 0, none⟩)) (fun W' hSW => ?_) ?_
 ·obtain ⟨⟨s0, s1⟩, a7, ⟨k0, k1, k2⟩, ⟨x0, x1, x2, x3, x4⟩, y0, y1, y2, y3, y4⟩ := HY.out W' hSW
  first | (go_simp; done) | exact rfl | (go_simp; rfl) | (go_simp; omega)
 try simp only [pUt, pUn, sEt, sEz, sEs]
 clear hHeld
 have hHeld : Fr0 (fun k => k = SB + 1 + 1) W7 wd := fd.mono (fun _ _ h => h.elim)
 have HRB := Lib.hid ((fd.block (SB + 1 + 1) (Array.getElem?_eq_some_iff.1 HRB.out).1 id).trans HRB.out)
 have t0 := thaw_in HRB.out 0
 have t1 := thaw_in HRB.out 1
 have u0 := cells_in HRB.out 0
 have u1 := cells_in HRB.out 1
 simp at u0 u1
 refine take_call (i := 35) rfl (by kernel_rfl) (by kernel_rfl) (fun K hK => ?_)
 go_simp
 obtain ⟨W9, hW9⟩ : ∃ W, ((wd).setCell ⟨SB + 1 + 1, 0, none⟩ (.int .i64 n)).setCell ⟨SB + 1 + 1, 1, none⟩ (.slice ra m rc) = W := ⟨_, rfl⟩
 have f9 : Fr0 (fun k => k = SB + 1 + 1) (wd) W9 := by rw [← hW9]; exact ((Fr0.refl (fun k => k = SB + 1 + 1) (wd)).setCell (fun _ => rfl) _).setCell (fun _ => rfl) _
 have hb9 : W9.heap[SB + 1 + 1]? = some (.cells #[.int .i64 n, .slice ra m rc] 50 (0, 0)) := by rw [← hW9]; exact heap_set_cell (heap_set_cell HRB.out _) _
 rw [hW9]
 refine hK.out _ _ (hHeld.trans f9) (fun hS => ?_)
 clear hK K hW9 t0 t1 u0 u1
 try simp only [pUt, pUn, sEt, sEz, sEs]
 refine tkn (i := 36) (v := .bool true) (fun W' hSW => ?_) ?_
 ·obtain ⟨⟨s0, s1⟩, a7, ⟨k0, k1, k2⟩, ⟨x0, x1, x2, x3, x4⟩, y0, y1, y2, y3, y4⟩ := HY.out W' hSW
  first | (go_simp; done) | exact rfl | (go_simp; rfl) | (go_simp; omega)
 try simp only [pUt, pUn, sEt, sEz, sEs]
 refine wpAnyH_done (by kernel_rfl) ?_ _
 have f79 : Fr0 (fun k => k = SB + 1 + 1) W7 W9 := hHeld.trans f9
 have r0 := cells_in hb9 0
 have r1 := cells_in hb9 1
 simp at r0 r1
 have HQ9 := Lib.hid (HQ7.out.fr0 f79 (fun k hk e => by have := Hft.out _ hk; omega))
 have F9 := Lib.hid (show Fr0 none' w W9 from F7.out.trans' f79 (fun k hk e => by have := HSB.out; omega))
 clear f79 f9 hHeld hS HY hn7 fd fc fb fa f8
 go_wp2_with fail
 refine bodyPost_ret (v := .tuple #[.pointer (some ⟨qb, 0, none⟩), .agg #[.int .i64 n, .slice ra m rc], .bool true]) (by simp [results, Tryz.results20, go_sem, r0, r1]) rfl ⟨qb, T, E, ft, ra, rc, by rw [Hm.out], HQ9.out, by omega, fun k hk => Or.inl hk, ⟨HR.out.1.later F9.out, HR.out.2.1, fun g o s e => ⟨(HR.out.2.2 g o s e).1, Nat.lt_of_lt_of_le (HR.out.2.2 g o s e).2 F9.out.size⟩⟩, F9.out.mono (fun _ _ h => h.elim), fun g o s e => .inl ⟨o, s, e⟩⟩
end Go.Proofs.YtmcgipilopfgoaaGreat

/-
  EvqTells: acts: putting a list.
-/
namespace Go.Proofs.YtmcgipilopfgoaaGreat
open Go Go.RowKit Go.ChangeMaps
attribute [local go_sem ↓] Go.wp_at_zero Go.wp_at_succ
attribute [local go_sem] Oper.semAt_some wide_fn wide_depth wide_fnR wide_depthR
attribute [local go_sem high] run_eql_ev run_neq_ev

set_option maxRecDepth 100000 in
set_option maxHeartbeats 4000000 in
theorem do_2 {w : World} {qb n T m rc lk lc : Nat} {E : List Ev} {ft : Nat → Prop} {ra la : Option Addr} {kd t : Int} {x : Ev} (h : QIs w qb n T E ft) (hT : T ≤ 1000000) (hr : RsK w n E ra rc ft) (hm : E.length = m) (hkd : 0 ≤ kd ∧ kd < 256)
  (hk : kd % 10 = 2) (L : List Ev) (hL : EsIn w la L) (hlk : L.length = lk) (hk30 : lk ≤ 30) (hlc : lk ≤ lc) (hla : L ≠ [] → ∀ g o s, la = some ⟨g, o, s⟩ → ¬ ft g) :
  Calls Tryz.prog 20 #[.pointer (some ⟨qb, 0, none⟩), .agg #[.int .i64 n, .slice ra m rc], actV kd x la lk lc t] w (DoPost n T w ft ra) := by
 have H := Lib.hid h
 have HR := Lib.hid hr
 have Hm := Lib.hid hm
 have hle := h.le
 have hmrc : m ≤ rc := by have := hr.2.1; rw [hm] at this; exact this
 have hm256 : m ≤ 256 := by omega
 have HLL := Lib.hid hL
 have Hlk := Lib.hid hlk
 have Hla := Lib.hid hla
 clear hL hlk hla
 unfold actV
 clear h hr hle hm
 go_enter Tryz.func20, Tryz.ntmps20
 go_wp2_with fail
 have hkt : kd.tmod 10 = 2 := by rw [Int.tmod_eq_emod_of_nonneg hkd.1]; exact hk
 clear hk
 obtain ⟨SB, hSB⟩ : ∃ B, w.heap.size = B := ⟨_, rfl⟩
 obtain ⟨W1, hW1⟩ : ∃ W, w.alloc (.cells #[.int .i64 n, .slice ra m rc] 50) = W := ⟨_, rfl⟩
 have hs1 : W1.heap[SB]? = some (.cells #[.int .i64 n, .slice ra m rc] 50 (0, 0)) := by rw [← hW1, ← hSB]; exact World.alloc_heap_new w _
 have f1 : Fr0 none' w W1 := by rw [← hW1]; exact (Fr0.refl _ _).alloc _
 have z1 : W1.heap.size = SB + 1 := by rw [← hW1, World.size_alloc, hSB]
 rw [hW1]
 try rw [hSB]
 obtain ⟨W2, hW2⟩ : ∃ W, W1.alloc (.cells #[.int .u8 kd, .int .i64 x.key.time, .int .i64 x.key.source, .int .i64 x.key.seq, .int .i64 x.to, .int .i64 x.value, .slice la lk lc, .int .i64 t] 32) = W := ⟨_, rfl⟩
 have f2 : Fr0 none' W1 W2 := by rw [← hW2]; exact (Fr0.refl _ _).alloc _
 have hx2 : W2.heap[SB + 1]? = some (.cells #[.int .u8 kd, .int .i64 x.key.time, .int .i64 x.key.source, .int .i64 x.key.seq, .int .i64 x.to, .int .i64 x.value, .slice la lk lc, .int .i64 t] 32 (0, 0)) := by rw [← hW2, ← z1]; exact World.alloc_heap_new W1 _
 have z2 : W2.heap.size = SB + 1 + 1 := by rw [← hW2, World.size_alloc, z1]
 rw [hW2]
 obtain ⟨W3, hW3⟩ : ∃ W, W2.alloc (.cells #[.int .i64 0, .slice none 0 0] 50) = W := ⟨_, rfl⟩
 have f3 : Fr0 none' W2 W3 := by rw [← hW3]; exact (Fr0.refl _ _).alloc _
 have HRB := Lib.hid (show W3.heap[SB + 1 + 1]? = some (.cells #[.int .i64 0, .slice none 0 0] 50 (0, 0)) by rw [← hW3, ← z2]; exact World.alloc_heap_new W2 _)
 have HA := Lib.hid ((f3.block (SB + 1) (Array.getElem?_eq_some_iff.1 hx2).1 id).trans hx2)
 have HS := Lib.hid (((f2.trans f3).block SB (Array.getElem?_eq_some_iff.1 hs1).1 id).trans hs1)
 have HF := Lib.hid ((f1.trans f2).trans f3)
 have HSB := Lib.hid hSB
 have z3 : W3.heap.size = SB + 1 + 1 + 1 := by rw [← hW3, World.size_alloc, z2]
 have Hz3 := Lib.hid z3
 rw [hW3]
 clear hW1 hSB hs1 f1 hW2 f2 f3 hW3 z1 z2 hx2 z3
 have HZ := Lib.hid (fun (W' : World) (hf : Fr0 none' W3 W') => (show W'.cell? ⟨SB + 1, 0, none⟩ = some (.int .u8 kd) ∧ W'.cell? ⟨SB + 1, 1, none⟩ = some (.int .i64 x.key.time) ∧ W'.cell? ⟨SB + 1, 2, none⟩ = some (.int .i64 x.key.source) ∧ W'.cell? ⟨SB + 1, 3, none⟩ = some (.int .i64 x.key.seq) ∧ W'.cell? ⟨SB + 1, 4, none⟩ = some (.int .i64 x.to) ∧ W'.cell? ⟨SB + 1, 5, none⟩ = some (.int .i64 x.value) ∧ W'.cell? ⟨SB + 1, 6, none⟩ = some (.slice la lk lc) ∧ W'.cell? ⟨SB + 1, 7, none⟩ = some (.int .i64 t) from by
  have h1 := (hf.block (SB + 1) (Array.getElem?_eq_some_iff.1 HA.out).1 id).trans HA.out
  refine ⟨?_, ?_, ?_, ?_, ?_, ?_, ?_, ?_⟩ <;> (rw [cells_in h1]; rfl)))
 refine wp_region_held_drew (S := fun W' => Fr0 none' W3 W') (by kernel_rfl) ((Fr0.refl _ W3).drew) (fun hHeld => ?_)
 refine tkn (i := 0) (v := .pointer (some ⟨SB + 1, 0, none⟩)) (fun W' hSW => ?_) ?_
 ·obtain ⟨a0, a1, a2, a3, a4, a5, a6, a7⟩ := HZ.out W' hSW
  first | (go_simp; done) | exact rfl | (go_simp; rfl) | (go_simp; omega)
 try simp only [pUt, pUn, sEt, sEz, sEs]
 refine tkn (i := 1) (v := .int .u8 kd) (fun W' hSW => ?_) ?_
 ·obtain ⟨a0, a1, a2, a3, a4, a5, a6, a7⟩ := HZ.out W' hSW
  first | (go_simp; done) | exact rfl | (go_simp; rfl) | (go_simp; omega)
 try simp only [pUt, pUn, sEt, sEz, sEs]
 refine tkn (i := 2) (v := .int .u8 2) (fun W' hSW => ?_) ?_
 ·obtain ⟨a0, a1, a2, a3, a4, a5, a6, a7⟩ := HZ.out W' hSW
  first | (go_simp; done) | exact rfl | (go_simp; rfl) | (go_simp; omega)
 try simp only [pUt, pUn, sEt, sEz, sEs]
 refine tkn (i := 3) (v := .pointer (some ⟨SB + 1, 1, none⟩)) (fun W' hSW => ?_) ?_
 ·obtain ⟨a0, a1, a2, a3, a4, a5, a6, a7⟩ := HZ.out W' hSW
  first | (go_simp; done) | exact rfl | (go_simp; rfl) | (go_simp; omega)
 try simp only [pUt, pUn, sEt, sEz, sEs]
 refine tkn (i := 4) (v := .pointer (some ⟨SB + 1, 1, none⟩)) (fun W' hSW => ?_) ?_
 ·obtain ⟨a0, a1, a2, a3, a4, a5, a6, a7⟩ := HZ.out W' hSW
  first | (go_simp; done) | exact rfl | (go_simp; rfl) | (go_simp; omega)
 try simp only [pUt, pUn, sEt, sEz, sEs]
 refine tkn (i := 5) (v := .agg #[.int .i64 x.key.time, .int .i64 x.key.source, .int .i64 x.key.seq]) (fun W' hSW => ?_) ?_
 ·obtain ⟨a0, a1, a2, a3, a4, a5, a6, a7⟩ := HZ.out W' hSW
  first | (go_simp; done) | exact rfl | (go_simp; rfl) | (go_simp; omega)
 try simp only [pUt, pUn, sEt, sEz, sEs]
 refine take_call (i := 6) rfl (by kernel_rfl) (by kernel_rfl) (fun K hK => ?_)
 go_simp
 rw [Hz3.out]
 obtain ⟨V1, hV1⟩ : ∃ W, W3.alloc (.cells #[.int .i64 0, .int .i64 0, .int .i64 0] 26) = W := ⟨_, rfl⟩
 have fV : Fr0 none' W3 V1 := by rw [← hV1]; exact (Fr0.refl _ _).alloc _
 have hk1 : V1.heap[SB + 1 + 1 + 1]? = some (.cells #[.int .i64 0, .int .i64 0, .int .i64 0] 26 (0, 0)) := by rw [← hV1, ← Hz3.out]; exact World.alloc_heap_new W3 _
 rw [hV1]
 refine hK.out _ _ fV.drew (fun hS => ?_)
 clear hK K hV1 hHeld
 try simp only [pUt, pUn, sEt, sEz, sEs]
 refine tkn (i := 7) (v := .int .u8 2) (fun W' hSW => ?_) ?_
 ·obtain ⟨a0, a1, a2, a3, a4, a5, a6, a7⟩ := HZ.out W' hSW
  first | (go_simp; done) | exact rfl | (go_simp; rfl) | (go_simp; omega)
 try simp only [pUt, pUn, sEt, sEz, sEs]
 refine take_call (i := 8) rfl (by kernel_rfl) (by kernel_rfl) (fun K hK => ?_)
 have t0 := thaw_in hk1 0
 have t1 := thaw_in hk1 1
 have t2 := thaw_in hk1 2
 have u0 := cells_in hk1 0
 have u1 := cells_in hk1 1
 have u2 := cells_in hk1 2
 simp at u0 u1 u2
 go_simp
 obtain ⟨V2, hV2⟩ : ∃ W, ((V1.setCell ⟨SB + 1 + 1 + 1, 0, none⟩ (.int .i64 x.key.time)).setCell ⟨SB + 1 + 1 + 1, 1, none⟩ (.int .i64 x.key.source)).setCell ⟨SB + 1 + 1 + 1, 2, none⟩ (.int .i64 x.key.seq) = W := ⟨_, rfl⟩
 have hg3 : SB + 1 + 1 + 1 < W3.heap.size → none' (SB + 1 + 1 + 1) := fun e => by have := Hz3.out; omega
 have fV2 : Fr0 none' W3 V2 := by rw [← hV2]; exact ((fV.setCell hg3 _).setCell hg3 _).setCell hg3 _
 have hk2 : V2.heap[SB + 1 + 1 + 1]? = some (.cells #[.int .i64 x.key.time, .int .i64 x.key.source, .int .i64 x.key.seq] 26 (0, 0)) := by rw [← hV2]; exact heap_set_cell (heap_set_cell (heap_set_cell hk1 _) _) _
 rw [hV2]
 refine hK.out _ _ fV2.drew (fun hS => ?_)
 clear hK K hV2 t0 t1 t2 u0 u1 u2 hg3 fV hk1
 try simp only [pUt, pUn, sEt, sEz, sEs]
 refine wpAnyH_done (by kernel_rfl) ?_ _
 obtain ⟨V, hV⟩ : ∃ W, V2.drew = W := ⟨_, rfl⟩
 have fV : Fr0 none' W3 V := by rw [← hV]; exact fV2.drew
 have HK := Lib.hid (show V.heap[SB + 1 + 1 + 1]? = some (.cells #[.int .i64 x.key.time, .int .i64 x.key.source, .int .i64 x.key.seq] 26 (0, 0)) by rw [← hV]; exact hk2)
 have HRB := Lib.hid ((fV.block (SB + 1 + 1) (Array.getElem?_eq_some_iff.1 HRB.out).1 id).trans HRB.out)
 have HA := Lib.hid ((fV.block (SB + 1) (Array.getElem?_eq_some_iff.1 HA.out).1 id).trans HA.out)
 have HS := Lib.hid ((fV.block SB (Array.getElem?_eq_some_iff.1 HS.out).1 id).trans HS.out)
 have HF := Lib.hid (HF.out.trans fV)
 rw [hV]
 clear hV hk2 fV2 fV HZ Hz3 hS
 clear hkt
 have a0 := cells_in HA.out 0
 have a1 := cells_in HA.out 1
 have a2 := cells_in HA.out 2
 have a3 := cells_in HA.out 3
 have a4 := cells_in HA.out 4
 have a5 := cells_in HA.out 5
 have a6 := cells_in HA.out 6
 have a7 := cells_in HA.out 7
 have s0 := cells_in HS.out 0
 have s1 := cells_in HS.out 1
 have k0 := cells_in HK.out 0
 have k1 := cells_in HK.out 1
 have k2 := cells_in HK.out 2
 simp at a0 a1 a2 a3 a4 a5 a6 a7 s0 s1 k0 k1 k2
 go_wp2_with fail
 have HKv := HK
 have Hft := Lib.hid (show ∀ k, ft k → k < SB from fun k hk => by have := H.out.lt k hk; have := HSB.out; omega)
 have HFv := HF
 refine (CloneE (cap := lc) L (HLL.out.later HF.out) Hlk.out (by omega)).mono ?_
 rintro e w4 ⟨v, rfl, hrow, hf4⟩
 obtain ⟨oa, oc, rfl, _, hoe⟩ := EsIn.of_own hrow
 have HO := Lib.hid hoe
 have HOr := Lib.hid (fun g o s (e : oa = some ⟨g, o, s⟩) => (hrow.lt g (by rw [e]; rfl)).1)
 clear a0 a1 a2 a3 a4 a5 a6 a7 s0 s1 k0 k1 k2
 have HK := Lib.hid ((hf4.block (SB + 1 + 1 + 1) (Array.getElem?_eq_some_iff.1 HK.out).1 id).trans HK.out)
 have HRB := Lib.hid ((hf4.block (SB + 1 + 1) (Array.getElem?_eq_some_iff.1 HRB.out).1 id).trans HRB.out)
 have HA := Lib.hid ((hf4.block (SB + 1) (Array.getElem?_eq_some_iff.1 HA.out).1 id).trans HA.out)
 have HS := Lib.hid ((hf4.block SB (Array.getElem?_eq_some_iff.1 HS.out).1 id).trans HS.out)
 have F4 := Lib.hid (show Fr0 none' w w4 from HF.out.trans hf4)
 clear hrow hf4 hoe
 go_wp2_with fail
 have HVs := Lib.hid (show w.heap.size ≤ V.heap.size from HF.out.size)
 have HP := (H.out.later F4.out).putAll (cap := oc) L HO.out Hlk.out (by omega) (by omega) (fun g o s e hk => by have h1 := HOr.out g o s e; have h2 := Hft.out g hk; have := HSB.out; have := HVs.out; omega)
 obtain ⟨i, hi⟩ : ∃ i, (allV n E L).1 = i := ⟨_, rfl⟩
 obtain ⟨c, hc⟩ : ∃ c, (allV n E L).2 = c := ⟨_, rfl⟩
 obtain ⟨E', hE'⟩ : ∃ E', allE n E L = E' := ⟨_, rfl⟩
 rw [hi, hc, hE'] at HP
 have Hi := Lib.hid hi
 have Hc := Lib.hid hc
 have HE' := Lib.hid hE'
 have HK4 := Lib.hid (show SB + 1 + 1 + 1 < w4.heap.size from (Array.getElem?_eq_some_iff.1 HK.out).1)
 have HV4 := Lib.hid (show w.heap.size ≤ w4.heap.size from F4.out.size)
 refine HP.mono ?_
 rintro e w5 ⟨rfl, hq5, hf5⟩
 have HQ5 := Lib.hid hq5
 have HK := Lib.hid ((hf5.block (SB + 1 + 1 + 1) (Array.getElem?_eq_some_iff.1 HK.out).1 (fun h => by have := Hft.out _ h; omega)).trans HK.out)
 have HRB := Lib.hid ((hf5.block (SB + 1 + 1) (Array.getElem?_eq_some_iff.1 HRB.out).1 (fun h => by have := Hft.out _ h; omega)).trans HRB.out)
 have HA := Lib.hid ((hf5.block (SB + 1) (Array.getElem?_eq_some_iff.1 HA.out).1 (fun h => by have := Hft.out _ h; omega)).trans HA.out)
 have HS := Lib.hid ((hf5.block SB (Array.getElem?_eq_some_iff.1 HS.out).1 (fun h => by have := Hft.out _ h; omega)).trans HS.out)
 have F5 := Lib.hid (show Fr0 ft w w5 from (F4.out.mono (fun _ _ h => h.elim)).trans hf5)
 have HGR := Lib.hid (show ∀ k, qgrow ft w4 w5 k → ft k ∨ w.heap.size ≤ k from fun k hk => hk.imp id (fun h => Nat.le_trans HV4.out h.1))
 have HKv5 := Lib.hid (show SB + 1 + 1 + 1 < w5.heap.size from (Array.getElem?_eq_some_iff.1 HK.out).1)
 have HRE := Lib.hid (HR.out.1.fr0 F5.out (fun g o s e => (HR.out.2.2 g o s e).1))
 have HO := Lib.hid (HO.out.fr0 hf5 (fun g o s e hk => by have h1 := HOr.out g o s e; have h2 := Hft.out g hk; have := HSB.out; have := HVs.out; omega))
 have HLL := Lib.hid (show EsIn w5 la L from by
  by_cases h0 : L = []
  ·rw [h0]; intro i y e; simp at e
  ·exact HLL.out.fr0 F5.out (Hla.out h0))
 have Hrs := Lib.hid (fun g o s (e : ra = some ⟨g, o, s⟩) => Nat.lt_of_lt_of_le (HR.out.2.2 g o s e).2 F5.out.size)
 clear HP hq5 hf5 hi hc hE'
 have a0 := cells_in HA.out 0
 have a1 := cells_in HA.out 1
 have a2 := cells_in HA.out 2
 have a3 := cells_in HA.out 3
 have a4 := cells_in HA.out 4
 have a5 := cells_in HA.out 5
 have a6 := cells_in HA.out 6
 have a7 := cells_in HA.out 7
 have s0 := cells_in HS.out 0
 have s1 := cells_in HS.out 1
 have k0 := cells_in HK.out 0
 have k1 := cells_in HK.out 1
 have k2 := cells_in HK.out 2
 simp at a0 a1 a2 a3 a4 a5 a6 a7 s0 s1 k0 k1 k2
 go_wp2_with fail
 have hPr := rPutAll_any (n := n) (cap := rc) (lc := lc) E L HRE.out Hm.out (by omega) hmrc (by have := H.out.le.1; rw [Hm.out] at this; exact this) H.out.le.2 HLL.out Hlk.out (by omega) hlc Hrs.out H.out.good.2.1
 rw [Hi.out, Hc.out, HE'.out] at hPr
 refine hPr.mono ?_
 rintro e w6 ⟨v, rfl, hA, hf⟩
 obtain ⟨na, nc, rfl, hnc, hne, hnb⟩ := hA
 obtain ⟨nm, hnm⟩ : ∃ nm, E'.length = nm := ⟨_, rfl⟩
 rw [hnm] at hnc ⊢
 have Hnm := Lib.hid hnm
 have HNE := Lib.hid hne
 have HNB := Lib.hid hnb
 have HQ6 := Lib.hid (HQ5.out.later hf)
 have HO := Lib.hid (HO.out.later hf)
 have HLL := Lib.hid (HLL.out.later hf)
 clear a0 a1 a2 a3 a4 a5 a6 a7 s0 s1 k0 k1 k2
 have HK := Lib.hid ((hf.block (SB + 1 + 1 + 1) (Array.getElem?_eq_some_iff.1 HK.out).1 id).trans HK.out)
 have HRB := Lib.hid ((hf.block (SB + 1 + 1) (Array.getElem?_eq_some_iff.1 HRB.out).1 id).trans HRB.out)
 have HA := Lib.hid ((hf.block (SB + 1) (Array.getElem?_eq_some_iff.1 HA.out).1 id).trans HA.out)
 have HS := Lib.hid ((hf.block SB (Array.getElem?_eq_some_iff.1 HS.out).1 id).trans HS.out)
 have F6 := Lib.hid (F5.out.trans (hf.mono (fun _ _ h => h.elim)))
 clear hPr hf hnm hne hnb
 have HKo := HK
 go_wp2_with fail
 obtain ⟨NB, hNB⟩ : ∃ B, (w6).heap.size = B := ⟨_, rfl⟩
 obtain ⟨W7, hW7⟩ : ∃ W, (w6).alloc (.cells #[.int .i64 n, .slice na nm nc] 50) = W := ⟨_, rfl⟩
 have f7 : Fr0 none' (w6) W7 := by rw [← hW7]; exact (Fr0.refl _ _).alloc _
 have HN := Lib.hid (show W7.heap[NB]? = some (.cells #[.int .i64 n, .slice na nm nc] 50 (0, 0)) by rw [← hW7, ← hNB]; exact World.alloc_heap_new _ _)
 have HK := Lib.hid ((f7.block (SB + 1 + 1 + 1) (Array.getElem?_eq_some_iff.1 HK.out).1 id).trans HK.out)
 have HRB := Lib.hid ((f7.block (SB + 1 + 1) (Array.getElem?_eq_some_iff.1 HRB.out).1 id).trans HRB.out)
 have HA := Lib.hid ((f7.block (SB + 1) (Array.getElem?_eq_some_iff.1 HA.out).1 id).trans HA.out)
 have HS := Lib.hid ((f7.block SB (Array.getElem?_eq_some_iff.1 HS.out).1 id).trans HS.out)
 have HQ7 := Lib.hid (HQ6.out.later f7)
 have F7 := Lib.hid (F6.out.trans (f7.mono (fun _ _ h => h.elim)))
 have HNE := Lib.hid (HNE.out.later f7)
 have HNB := Lib.hid (show ∀ g o s, (na : Option Addr) = some ⟨g, o, s⟩ → (∃ o' s', ra = some ⟨g, o', s'⟩) ∨ (w5.heap.size ≤ g ∧ g < W7.heap.size) from fun g o s e => (HNB.out g o s e).imp id (fun h => ⟨h.1, Nat.lt_of_lt_of_le h.2 f7.size⟩))
 have HNr := Lib.hid (show SB + 1 + 1 ≠ NB ∧ SB + 1 ≠ NB ∧ SB ≠ NB by have h9 := (Array.getElem?_eq_some_iff.1 HK.out).1; rw [← hNB]; have h8 := (Array.getElem?_eq_some_iff.1 HKo.out).1; omega)
 have HN7 := Lib.hid f7
 rw [hW7]
 try rw [hNB]
 clear hW7 hNB f7
 have HY := Lib.hid (fun (W' : World) (hf : Fr0 (fun k => k = SB + 1 + 1) W7 W') => (show (W'.cell? ⟨SB, 0, none⟩ = some (.int .i64 n) ∧ W'.cell? ⟨SB, 1, none⟩ = some (.slice ra m rc)) ∧ (W'.cell? ⟨NB, 0, none⟩ = some (.int .i64 n) ∧ W'.cell? ⟨NB, 1, none⟩ = some (.slice na nm nc)) ∧ W'.cell? ⟨SB + 1, 0, none⟩ = some (.int .u8 kd) ∧ W'.cell? ⟨SB + 1, 1, none⟩ = some (.int .i64 x.key.time) ∧ W'.cell? ⟨SB + 1, 2, none⟩ = some (.int .i64 x.key.source) ∧ W'.cell? ⟨SB + 1, 3, none⟩ = some (.int .i64 x.key.seq) ∧ W'.cell? ⟨SB + 1, 4, none⟩ = some (.int .i64 x.to) ∧ W'.cell? ⟨SB + 1, 5, none⟩ = some (.int .i64 x.value) ∧ W'.cell? ⟨SB + 1, 6, none⟩ = some (.slice la lk lc) ∧ W'.cell? ⟨SB + 1, 7, none⟩ = some (.int .i64 t) from by
  have hn := HNr.out
  have h1 := (hf.block (SB + 1) (Array.getElem?_eq_some_iff.1 HA.out).1 (fun e => by omega)).trans HA.out
  have h2 := (hf.block SB (Array.getElem?_eq_some_iff.1 HS.out).1 (fun e => by omega)).trans HS.out
  have h3 := (hf.block NB (Array.getElem?_eq_some_iff.1 HN.out).1 (fun e => hn.1 e.symm)).trans HN.out
  refine ⟨⟨?_, ?_⟩, ⟨?_, ?_⟩, ?_, ?_, ?_, ?_, ?_, ?_, ?_, ?_⟩
  ·rw [cells_in h2]; rfl
  ·rw [cells_in h2]; rfl
  ·rw [cells_in h3]; rfl
  ·rw [cells_in h3]; rfl
  all_goals (rw [cells_in h1]; rfl)))
 have HEq := Lib.hid (fun (W : World) (hf : Fr0 none' W7 W) => sameEs_any oa la _ _ oc lc L L W Hlk.out Hlk.out (by omega) (by omega) ((HO.out.later HN7.out).later hf) ((HLL.out.later HN7.out).later hf))
 rw [decide_eq_true rfl] at HEq
 refine wp_region_held_drew (S := fun W' => Fr0 (fun k => k = SB + 1 + 1) W7 W') (by kernel_rfl) ((Fr0.refl _ W7).drew) (fun hHeld => ?_)
 refine tkn (i := 0) (v := .pointer (some ⟨qb, 0, none⟩)) (fun W' hSW => ?_) ?_
 ·obtain ⟨⟨s0, s1⟩, ⟨n0, n1⟩, a0, a1, a2, a3, a4, a5, a6, a7⟩ := HY.out W' hSW
  first | (go_simp; done) | exact rfl | (go_simp; rfl) | (go_simp; omega)
 try simp only [pUt, pUn, sEt, sEz, sEs]
 refine tkn (i := 1) (v := .agg #[.int .i64 n, .slice na nm nc]) (fun W' hSW => ?_) ?_
 ·obtain ⟨⟨s0, s1⟩, ⟨n0, n1⟩, a0, a1, a2, a3, a4, a5, a6, a7⟩ := HY.out W' hSW
  first | (go_simp; done) | exact rfl | (go_simp; rfl) | (go_simp; omega)
 try simp only [pUt, pUn, sEt, sEz, sEs]
 refine tkn (i := 2) (v := .int .i64 i) (fun W' hSW => ?_) ?_
 ·obtain ⟨⟨s0, s1⟩, ⟨n0, n1⟩, a0, a1, a2, a3, a4, a5, a6, a7⟩ := HY.out W' hSW
  first | (go_simp; done) | exact rfl | (go_simp; rfl) | (go_simp; omega)
 try simp only [pUt, pUn, sEt, sEz, sEs]
 refine tkn (i := 3) (v := .int .i64 i) (fun W' hSW => ?_) ?_
 ·obtain ⟨⟨s0, s1⟩, ⟨n0, n1⟩, a0, a1, a2, a3, a4, a5, a6, a7⟩ := HY.out W' hSW
  first | (go_simp; done) | exact rfl | (go_simp; rfl) | (go_simp; omega)
 try simp only [pUt, pUn, sEt, sEz, sEs]
 refine tkn (i := 4) (v := .bool true) (fun W' hSW => ?_) ?_
 ·obtain ⟨⟨s0, s1⟩, ⟨n0, n1⟩, a0, a1, a2, a3, a4, a5, a6, a7⟩ := HY.out W' hSW
  first | (go_simp; done) | exact rfl | (go_simp; rfl) | (go_simp; omega)
 try simp only [pUt, pUn, sEt, sEz, sEs]
 refine tkn (i := 5) (v := .bool true) (fun W' hSW => ?_) ?_
 ·obtain ⟨⟨s0, s1⟩, ⟨n0, n1⟩, a0, a1, a2, a3, a4, a5, a6, a7⟩ := HY.out W' hSW
  first | (go_simp; done) | exact rfl | (go_simp; rfl) | (go_simp; omega)
 try simp only [pUt, pUn, sEt, sEz, sEs]
 refine tkn (i := 6) (v := .int .i64 c) (fun W' hSW => ?_) ?_
 ·obtain ⟨⟨s0, s1⟩, ⟨n0, n1⟩, a0, a1, a2, a3, a4, a5, a6, a7⟩ := HY.out W' hSW
  first | (go_simp; done) | exact rfl | (go_simp; rfl) | (go_simp; omega)
 try simp only [pUt, pUn, sEt, sEz, sEs]
 refine tkn (i := 7) (v := .int .i64 c) (fun W' hSW => ?_) ?_
 ·obtain ⟨⟨s0, s1⟩, ⟨n0, n1⟩, a0, a1, a2, a3, a4, a5, a6, a7⟩ := HY.out W' hSW
  first | (go_simp; done) | exact rfl | (go_simp; rfl) | (go_simp; omega)
 try simp only [pUt, pUn, sEt, sEz, sEs]
 refine tkn (i := 8) (v := .bool true) (fun W' hSW => ?_) ?_
 ·obtain ⟨⟨s0, s1⟩, ⟨n0, n1⟩, a0, a1, a2, a3, a4, a5, a6, a7⟩ := HY.out W' hSW
  first | (go_simp; done) | exact rfl | (go_simp; rfl) | (go_simp; omega)
 try simp only [pUt, pUn, sEt, sEz, sEs]
 refine tkn (i := 9) (v := .bool true) (fun W' hSW => ?_) ?_
 ·obtain ⟨⟨s0, s1⟩, ⟨n0, n1⟩, a0, a1, a2, a3, a4, a5, a6, a7⟩ := HY.out W' hSW
  first | (go_simp; done) | exact rfl | (go_simp; rfl) | (go_simp; omega)
 try simp only [pUt, pUn, sEt, sEz, sEs]
 refine tkn (i := 10) (v := .bool true) (fun W' hSW => ?_) ?_
 ·obtain ⟨⟨s0, s1⟩, ⟨n0, n1⟩, a0, a1, a2, a3, a4, a5, a6, a7⟩ := HY.out W' hSW
  first | (go_simp; done) | exact rfl | (go_simp; rfl) | (go_simp; omega)
 try simp only [pUt, pUn, sEt, sEz, sEs]
 refine tkn (i := 11) (v := .slice oa lk oc) (fun W' hSW => ?_) ?_
 ·obtain ⟨⟨s0, s1⟩, ⟨n0, n1⟩, a0, a1, a2, a3, a4, a5, a6, a7⟩ := HY.out W' hSW
  first | (go_simp; done) | exact rfl | (go_simp; rfl) | (go_simp; omega)
 try simp only [pUt, pUn, sEt, sEz, sEs]
 refine tkn (i := 12) (v := .pointer (some ⟨SB + 1, 6, none⟩)) (fun W' hSW => ?_) ?_
 ·obtain ⟨⟨s0, s1⟩, ⟨n0, n1⟩, a0, a1, a2, a3, a4, a5, a6, a7⟩ := HY.out W' hSW
  first | (go_simp; done) | exact rfl | (go_simp; rfl) | (go_simp; omega)
 try simp only [pUt, pUn, sEt, sEz, sEs]
 refine tkn (i := 13) (v := .slice la lk lc) (fun W' hSW => ?_) ?_
 ·obtain ⟨⟨s0, s1⟩, ⟨n0, n1⟩, a0, a1, a2, a3, a4, a5, a6, a7⟩ := HY.out W' hSW
  first | (go_simp; done) | exact rfl | (go_simp; rfl) | (go_simp; omega)
 try simp only [pUt, pUn, sEt, sEz, sEs]
 refine take_call (i := 14) rfl (by kernel_rfl) (by kernel_rfl) (fun K hK => ?_)
 go_simp
 refine (HEq.out _ ((Fr0.refl none' W7).drew)).mono ?_
 rintro e w9 ⟨rfl, hf⟩
 have h9 : Fr0 none' W7 w9 := ((Fr0.refl none' W7).drew).trans hf
 clear hf
 go_wp2_with fail
 refine hK.out _ _ (h9.mono (fun _ _ h => h.elim)) (fun hS => ?_)
 clear hK K
 try simp only [pUt, pUn, sEt, sEz, sEs]
 clear hHeld
 have hHeld : Fr0 (fun k => k = SB + 1 + 1) W7 w9 := h9.mono (fun _ _ h => h.elim)
 refine tkn (i := 15) (v := .bool true) (fun W' hSW => ?_) ?_
 ·obtain ⟨⟨s0, s1⟩, ⟨n0, n1⟩, a0, a1, a2, a3, a4, a5, a6, a7⟩ := HY.out W' hSW
  first | (go_simp; done) | exact rfl | (go_simp; rfl) | (go_simp; omega)
 try simp only [pUt, pUn, sEt, sEz, sEs]
 refine tkn (i := 16) (v := .pointer (some ⟨qb, 0, none⟩)) (fun W' hSW => ?_) ?_
 ·obtain ⟨⟨s0, s1⟩, ⟨n0, n1⟩, a0, a1, a2, a3, a4, a5, a6, a7⟩ := HY.out W' hSW
  first | (go_simp; done) | exact rfl | (go_simp; rfl) | (go_simp; omega)
 try simp only [pUt, pUn, sEt, sEz, sEs]
 have HK := Lib.hid ((h9.block (SB + 1 + 1 + 1) (Array.getElem?_eq_some_iff.1 HK.out).1 id).trans HK.out)
 have HRB := Lib.hid ((h9.block (SB + 1 + 1) (Array.getElem?_eq_some_iff.1 HRB.out).1 id).trans HRB.out)
 have HA := Lib.hid ((h9.block (SB + 1) (Array.getElem?_eq_some_iff.1 HA.out).1 id).trans HA.out)
 have HS := Lib.hid ((h9.block SB (Array.getElem?_eq_some_iff.1 HS.out).1 id).trans HS.out)
 have t0 := thaw_in HRB.out 0
 have t1 := thaw_in HRB.out 1
 have u0 := cells_in HRB.out 0
 have u1 := cells_in HRB.out 1
 simp at u0 u1
 refine take_call (i := 17) rfl (by kernel_rfl) (by kernel_rfl) (fun K hK => ?_)
 go_simp
 obtain ⟨W9, hW9⟩ : ∃ W, ((w9).setCell ⟨SB + 1 + 1, 0, none⟩ (.int .i64 n)).setCell ⟨SB + 1 + 1, 1, none⟩ (.slice na nm nc) = W := ⟨_, rfl⟩
 have f9 : Fr0 (fun k => k = SB + 1 + 1) (w9) W9 := by rw [← hW9]; exact ((Fr0.refl (fun k => k = SB + 1 + 1) (w9)).setCell (fun _ => rfl) _).setCell (fun _ => rfl) _
 have hb9 : W9.heap[SB + 1 + 1]? = some (.cells #[.int .i64 n, .slice na nm nc] 50 (0, 0)) := by rw [← hW9]; exact heap_set_cell (heap_set_cell HRB.out _) _
 rw [hW9]
 refine hK.out _ _ (hHeld.trans f9) (fun hS => ?_)
 clear hK K hW9 t0 t1 u0 u1
 try simp only [pUt, pUn, sEt, sEz, sEs]
 refine tkn (i := 18) (v := .bool true) (fun W' hSW => ?_) ?_
 ·obtain ⟨⟨s0, s1⟩, ⟨n0, n1⟩, a0, a1, a2, a3, a4, a5, a6, a7⟩ := HY.out W' hSW
  first | (go_simp; done) | exact rfl | (go_simp; rfl) | (go_simp; omega)
 try simp only [pUt, pUn, sEt, sEz, sEs]
 refine wpAnyH_done (by kernel_rfl) ?_ _
 have f79 : Fr0 (fun k => k = SB + 1 + 1) W7 W9 := hHeld.trans f9
 have r0 := cells_in hb9 0
 have r1 := cells_in hb9 1
 simp at r0 r1
 have HQ9 := Lib.hid (HQ7.out.fr0 f79 (fun k hk e => by
  subst e
  rcases hk with hk | hk
  ·have := Hft.out _ hk; omega
  ·have := hk.1; have := HK4.out; omega))
 have F79 := Lib.hid f79
 clear f79 f9 hHeld h9 hS HY
 go_wp2_with fail
 have hgr := HGR.out
 have hlt5 := HQ5.out.lt
 have hcr := HR.out.2.2
 have hcase : ∀ g o s, (na : Option Addr) = some ⟨g, o, s⟩ → g < (W9).heap.size ∧ g ≠ SB + 1 + 1 ∧ ¬ (qgrow ft w4 w5) g := fun g o s e => by
  have h2 := F79.out.size
  rcases HNB.out g o s e with ⟨o', s', e'⟩ | h1
  ·obtain ⟨h3, h4⟩ := hcr g o' s' e'
   have := HSB.out
   have := F7.out.size
   refine ⟨by omega, by omega, fun hk => ?_⟩
   rcases hgr g hk with h5 | h5
   ·exact h3 h5
   ·omega
  ·have := HKv5.out
   refine ⟨by omega, by omega, fun hk => ?_⟩
   have := hlt5 g hk
   omega
 refine bodyPost_ret (v := .tuple #[.pointer (some ⟨qb, 0, none⟩), .agg #[.int .i64 n, .slice na nm nc], .bool true]) (by simp [results, Tryz.results20, go_sem, r0, r1]) rfl ⟨qb, T + lk, E', qgrow ft w4 w5, na, nc, by rw [Hnm.out], HQ9.out, by omega, hgr, ⟨HNE.out.fr0 F79.out (fun g o s e => (hcase g o s e).2.1), by rw [Hnm.out]; exact hnc, fun g o s e => ⟨(hcase g o s e).2.2, (hcase g o s e).1⟩⟩, F7.out.trans' F79.out (fun k hk e => by have := HSB.out; omega), fun g o s e => (HNB.out g o s e).imp id (fun h => by have := HSB.out; have := HKv5.out; omega)⟩
end Go.Proofs.YtmcgipilopfgoaaGreat

/-
  EvqTells: an act, whatever its kind.
-/
namespace Go.Proofs.YtmcgipilopfgoaaGreat
open Go Go.RowKit

theorem do_any {w : World} {qb n T m rc lk lc : Nat} {E : List Ev} {ft : Nat → Prop} {ra la : Option Addr} {kd t : Int} {x : Ev} (h : QIs w qb n T E ft) (hT : T ≤ 1000000) (hr : RsK w n E ra rc ft) (hm : E.length = m) (hkd : 0 ≤ kd ∧ kd < 256)
  (hx64 : I64 x.key.source ∧ I64 x.key.seq) (ht : I64 t) (L : List Ev) (hL : EsIn w la L) (hlk : L.length = lk) (hk30 : lk ≤ 30) (hlc : lk ≤ lc) (hla : L ≠ [] → ∀ g o s, la = some ⟨g, o, s⟩ → ¬ ft g) :
  Calls Tryz.prog 20 #[.pointer (some ⟨qb, 0, none⟩), .agg #[.int .i64 n, .slice ra m rc], actV kd x la lk lc t] w (DoPost n T w ft ra) := by
 by_cases h0 : kd % 10 = 0
 ·exact do_0 h hT hr hm hkd h0
 by_cases h1 : kd % 10 = 1
 ·exact do_1 h hT hr hm hkd h1
 by_cases h2 : kd % 10 = 2
 ·exact do_2 h hT hr hm hkd h2 L hL hlk hk30 hlc hla
 by_cases h3 : kd % 10 = 3
 ·exact do_3 h hT hr hm hkd h3
 by_cases h4 : kd % 10 = 4
 ·exact do_4 h hT hr hm hkd h4
 by_cases h5 : kd % 10 = 5
 ·exact do_5 h hT hr hm hkd h5 hx64
 by_cases h6 : kd % 10 = 6
 ·by_cases hm0 : m = 0
  ·exact do_6n h hT hr hm hkd h6 hx64 hm0
  ·exact do_6 h hT hr hm hkd h6 ht (by omega)
 by_cases h7 : kd % 10 = 7
 ·exact do_7 h hT hr hm hkd h7 hx64
 by_cases h8 : kd % 10 = 8
 ·exact do_8 h hT hr hm hkd h8
 have h9 : kd % 10 = 9 := by omega
 by_cases h10 : t = 0
 ·exact do_9c h hT hr hm hkd h9 h10
 ·exact do_9 h hT hr hm hkd h9 h10

/-- An act, its list beside it. -/
structure Ac where
 kd : Int
 x : Ev
 la : Option Addr
 lk : Nat
 lc : Nat
 t : Int
 L : List Ev
def Ac.ok (w : World) (a : Ac) : Prop := (0 ≤ a.kd ∧ a.kd < 256) ∧ (I64 a.x.key.source ∧ I64 a.x.key.seq) ∧ I64 a.t ∧ EsIn w a.la a.L ∧ a.L.length = a.lk ∧ a.lk ≤ a.lc
/-- The values of an act's cells. -/
def Ac.vs (a : Ac) : List Value := [.int .u8 a.kd, .int .i64 a.x.key.time, .int .i64 a.x.key.source, .int .i64 a.x.key.seq, .int .i64 a.x.to, .int .i64 a.x.value, .slice a.la a.lk a.lc, .int .i64 a.t]
def AcIn (w : World) (g o : Nat) (a : Ac) : Prop := w.cell? ⟨g, o, none⟩ = some (.int .u8 a.kd) ∧ w.cell? ⟨g, o + 1, none⟩ = some (.int .i64 a.x.key.time) ∧ w.cell? ⟨g, o + 2, none⟩ = some (.int .i64 a.x.key.source) ∧ w.cell? ⟨g, o + 3, none⟩ = some (.int .i64 a.x.key.seq) ∧ w.cell? ⟨g, o + 4, none⟩ = some (.int .i64 a.x.to) ∧ w.cell? ⟨g, o + 5, none⟩ = some (.int .i64 a.x.value) ∧ w.cell? ⟨g, o + 6, none⟩ = some (.slice a.la a.lk a.lc) ∧ w.cell? ⟨g, o + 7, none⟩ = some (.int .i64 a.t)
/-- A slice of acts. -/
def AcsAt (w : World) (u : Value) (xs : List Ac) : Prop := ∃ a cap, u = .slice a xs.length cap ∧ ∀ j x, xs[j]? = some x → x.ok w ∧ ∃ g o, a = some ⟨g, o, none⟩ ∧ AcIn w g (o + j * 8) x
theorem AcIn.later {w w' : World} {g o : Nat} {a : Ac} (h : AcIn w g o a) (hf : Fr0 none' w w') : AcIn w' g o a := by
 obtain ⟨h0, h1, h2, h3, h4, h5, h6, h7⟩ := h
 exact ⟨hf.later h0, hf.later h1, hf.later h2, hf.later h3, hf.later h4, hf.later h5, hf.later h6, hf.later h7⟩
theorem Ac.ok.later {w w' : World} {a : Ac} (h : a.ok w) (hf : Fr0 none' w w') : a.ok w' := by
 obtain ⟨h0, h1, h2, h3, h4, h5⟩ := h
 exact ⟨h0, h1, h2, h3.later hf, h4, h5⟩
theorem EsIn.lt {w : World} {a : Option Addr} {L : List Ev} (h : EsIn w a L) (h0 : L ≠ []) : ∀ g o s, a = some ⟨g, o, s⟩ → g < w.heap.size := by
 intro g o s e
 cases L with
 | nil => exact absurd rfl h0
 | cons y r =>
  obtain ⟨g', o', e', hc, _⟩ := h 0 y rfl
  rw [e] at e'
  injection e' with e'
  injection e' with e1 e2 e3
  subst e1
  exact World.block_lt_of_cell? _ _ hc
end Go.Proofs.YtmcgipilopfgoaaGreat

/-
  EvqWrong: its parts.
-/
namespace Go.Proofs.YtmcgipilopfgoaaGreat
open Go Go.RowKit Go.ChangeMaps
attribute [local go_sem ↓] Go.wp_at_zero Go.wp_at_succ
attribute [local go_sem] Oper.semAt_some wide_fn wide_depth wide_fnR wide_depthR

set_option maxRecDepth 100000 in
theorem QNew_bad (n : Int) (hn : n < 0 ∨ 256 < n) (w : World) : Calls Tryz.prog 19 #[.int .i64 n] w fun e w' => e = .returned (.tuple #[.pointer none, .int .i64 2]) ∧ w = w' := by
 by_cases h : n < 0
 ·have d1 : decide (n < 0) = true := decide_eq_true h
  clear hn h
  go_enter Tryz.func19, Tryz.ntmps19
  go_wp2_with fail
  go_ret2
  exact ⟨rfl, rfl⟩
 ·have d1 : decide (n < 0) = false := decide_eq_false h
  have d2 : decide (256 < n) = true := decide_eq_true (by omega)
  have d3 : decide (n > 256) = true := decide_eq_true (by omega)
  clear hn h
  go_enter Tryz.func19, Tryz.ntmps19
  go_wp2_with fail
  go_ret2
  exact ⟨rfl, rfl⟩
end Go.Proofs.YtmcgipilopfgoaaGreat

/-
  EvqTells: tells.
-/
namespace Go.Proofs.YtmcgipilopfgoaaGreat
open Go Go.RowKit
attribute [local go_sem ↓] Go.wp_at_zero Go.wp_at_succ
attribute [local go_sem] Oper.semAt_some wide_fn wide_depth wide_fnR wide_depthR

set_option maxRecDepth 100000 in
set_option maxHeartbeats 2000000 in
theorem tells_bad {w : World} {u : Value} (n : Int) (hn : n < 0 ∨ 256 < n) : Calls Tryz.prog 6 #[.int .i64 n, u] w fun e w' => e = .returned (.bool true) ∧ Fr0 none' w w' := by
 have HN := Lib.hid (fun W => QNew_bad n hn W)
 go_enter Tryz.func6, Tryz.ntmps6
 go_wp2_with fail
 refine (HN.out _).mono ?_
 rintro e w' ⟨rfl, rfl⟩
 go_wp2_with fail
 all_goals (go_ret; exact ⟨rfl, Fr0.refl _ _⟩)

set_option maxRecDepth 100000 in
set_option maxHeartbeats 2000000 in
theorem tells_ok {w : World} {u : Value} {xs : List Ac} (n : Nat) (hn : n ≤ 256) (hu : AcsAt w u xs) (hl : xs.length ≤ 100) : Calls Tryz.prog 6 #[.int .i64 n, u] w fun e w' => e = .returned (.bool true) ∧ Fr0 none' w w' := by
 obtain ⟨a, cap, rfl, hx⟩ := hu
 obtain ⟨k, hk⟩ : ∃ k, xs.length = k := ⟨_, rfl⟩
 rw [hk] at hl ⊢
 have HX := Lib.hid hx
 have Hk := Lib.hid hk
 clear hx hk
 have d1 : decide ((n : Int) < 0) = false := decide_eq_false (by omega)
 have d2 : decide ((n : Int) > 256) = false := decide_eq_false (by omega)
 have d3 : decide ((256 : Int) < (n : Int)) = false := decide_eq_false (by omega)
 go_enter Tryz.func6, Tryz.ntmps6
 go_wp2_with fail
 refine (QNew_is n hn w).mono ?_
 rintro e w1 ⟨qb, ft, rfl, hq, hf, hs⟩
 have HQ := Lib.hid hq
 have HS := Lib.hid hs
 have F1 := Lib.hid hf
 have hq1 := hq
 clear hq hs hf
 go_wp2_with fail
 obtain ⟨RB, hRB⟩ : ∃ b, w1.heap.size = b := ⟨_, rfl⟩
 obtain ⟨W2, hW2⟩ : ∃ W, w1.alloc (.cells #[.int .i64 n, .slice none 0 0] 50) = W := ⟨_, rfl⟩
 have hf : Fr0 none' w1 W2 := by rw [← hW2]; exact (Fr0.refl _ _).alloc _
 have HB := Lib.hid (show W2.heap[RB]? = some (.cells #[.int .i64 n, .slice none 0 0] 50 (0, 0)) by rw [← hW2, ← hRB]; exact World.alloc_heap_new _ _)
 have HQ := Lib.hid (HQ.out.later hf)
 have HS := Lib.hid (show ∀ k, ft k → w.heap.size ≤ k ∧ k ≠ RB from fun k hk => ⟨HS.out k hk, fun e => by have := hq1.lt k hk; omega⟩)
 have HRw := Lib.hid (show w.heap.size ≤ RB from by rw [← hRB]; exact F1.out.size)
 have F2 := Lib.hid (F1.out.trans hf)
 rw [hW2]
 try rw [hRB]
 clear hW2 hRB hf hq1
 have HR : Hid (RsK W2 n [] none 0 ft) := ⟨fun i y e => by simp at e, by simp, fun g o s e => by cases e⟩
 go_loopw [5, 9, 10, 38] (fun q _ _ i wr => ∃ (j T : Nat) (E : List Ev) (ft : Nat → Prop) (ra : Option Addr) (rc qb m : Nat), j ≤ k ∧ i = .int .i64 j ∧ q = .pointer (some ⟨qb, 0, none⟩) ∧ T ≤ 300 * j ∧ E.length = m ∧ Hid (QIs wr qb n T E ft) ∧ Hid (RsK wr n E ra rc ft) ∧ Hid (wr.heap[RB]? = some (.cells #[.int .i64 n, .slice ra m rc] 50 (0, 0))) ∧ Hid (∀ k, ft k → w.heap.size ≤ k ∧ k ≠ RB) ∧ Hid (∀ g o s, ra = some ⟨g, o, s⟩ → g ≠ RB) ∧ Hid (Fr0 none' w wr)) (fun _ _ _ i _ => k - (Go.RowKit.intOf i).toNat)
 case atStart => exact ⟨0, 0, [], ft, none, 0, qb, 0, Nat.zero_le _, rfl, rfl, Nat.zero_le _, rfl, HQ, HR, HB, HS, (fun g o s e => by cases e), F2⟩
 case round =>
  clear HQ HR HB HS F2 F1
  obtain ⟨j, T, E, ft', ra, rc, qb', m, hj, rfl, rfl, hT, hm, HQ, HR, HB, HS, HN, HF⟩ := hrel
  have b0 := cells_in HB.out 0
  have b1 := cells_in HB.out 1
  simp at b0 b1
  have hRB : RB < wr.heap.size := (Array.getElem?_eq_some_iff.1 HB.out).1
  by_cases hlt : j < k
  ·obtain ⟨x, hx⟩ : ∃ x, xs[j]? = some x := ⟨_, List.getElem?_eq_getElem (by rw [Hk.out]; exact hlt)⟩
   obtain ⟨hok, g, o, rfl, hin⟩ := HX.out j x hx
   have Hok := Lib.hid (hok.later HF.out)
   obtain ⟨c0, c1, c2, c3, c4, c5, c6, c7⟩ := hin.later HF.out
   have Hin := Lib.hid hin
   have k1 : (0 : Int) ≤ (j : Int) := by omega
   have k2 : (j : Int) < (k : Int) := by omega
   obtain ⟨kd, x, la, lk, lc, t, L⟩ := x
   simp only at c0 c1 c2 c3 c4 c5 c6 c7
   have Hm := Lib.hid hm
   have Hlw := Lib.hid (show L ≠ [] → ∀ g o s, la = some ⟨g, o, s⟩ → g < w.heap.size from hok.2.2.2.1.lt)
   clear hok hin hx hm
   by_cases hl30 : lk ≤ 30
   ·have e1 : decide ((lk : Int) > 30) = false := decide_eq_false (by omega)
    have e2 : decide ((30 : Int) < (lk : Int)) = false := decide_eq_false (by omega)
    go_wp2_with fail
    obtain ⟨W4, hW4⟩ : ∃ W, wr.alloc (.cells #[.int .u8 kd, .int .i64 x.key.time, .int .i64 x.key.source, .int .i64 x.key.seq, .int .i64 x.to, .int .i64 x.value, .slice la lk lc, .int .i64 t] 32) = W := ⟨_, rfl⟩
    have f4 : Fr0 none' wr W4 := by rw [← hW4]; exact (Fr0.refl _ _).alloc _
    have HB4 := Lib.hid ((f4.block RB hRB id).trans HB.out)
    have HQ4 := Lib.hid (HQ.out.later f4)
    have HR4 : Hid (RsK W4 n E ra rc ft') := ⟨HR.out.1.later f4, HR.out.2.1, fun g o s e => ⟨(HR.out.2.2 g o s e).1, Nat.lt_of_lt_of_le (HR.out.2.2 g o s e).2 f4.size⟩⟩
    have F4 := Lib.hid (HF.out.trans f4)
    have Hok := Lib.hid (Hok.out.later f4)
    rw [hW4]
    have hRB4 := Lib.hid (Nat.lt_of_lt_of_le hRB f4.size)
    clear hW4 f4 c0 c1 c2 c3 c4 c5 c6 c7 b0 b1 hRB HQ HR HB HF
    have hd := do_any (kd := kd) (x := x) (la := la) (lk := lk) (lc := lc) (t := t) HQ4.out (by omega) HR4.out Hm.out Hok.out.1 Hok.out.2.1 Hok.out.2.2.1 L Hok.out.2.2.2.1 Hok.out.2.2.2.2.1 hl30 Hok.out.2.2.2.2.2 (fun h0 g o s e hk => by have h1 := Hlw.out h0 g o s e; have h2 := (HS.out g hk).1; omega)
    unfold actV at hd
    refine hd.mono ?_
    rintro e w5 ⟨qb5, T5, E5, ft5, ra5, rc5, rfl, hq5, hT5, hft5, hr5, hf5, hra5⟩
    obtain ⟨m5, hm5⟩ : ∃ m, E5.length = m := ⟨_, rfl⟩
    rw [hm5]
    have Hm5 := Lib.hid hm5
    have HQ5 := Lib.hid hq5
    have HR5 := Lib.hid hr5
    have HS5 := Lib.hid (show ∀ k, ft5 k → w.heap.size ≤ k ∧ k ≠ RB from fun k hk => by
     rcases hft5 k hk with h | h
     ·exact HS.out k h
     ·have := F4.out.size
      have := hRB4.out
      omega)
    have HN5 := Lib.hid (show ∀ g o s, ra5 = some ⟨g, o, s⟩ → g ≠ RB from fun g o s e => by
     rcases hra5 g o s e with ⟨o', s', h⟩ | h
     ·exact HN.out g o' s' h
     ·have := hRB4.out
      omega)
    have HB5 := Lib.hid ((hf5.block RB hRB4.out (fun hk => (HS.out RB hk).2 rfl)).trans HB4.out)
    have F5 := Lib.hid (show Fr0 none' w w5 from F4.out.trans' hf5 (fun k hk h => by have := (HS.out k h).1; omega))
    have u0 := cells_in HB5.out 0
    have u1 := cells_in HB5.out 1
    have t0 := thaw_in HB5.out 0
    have t1 := thaw_in HB5.out 1
    simp at u0 u1
    clear hd hq5 hr5 hft5 hra5 hf5 hm5
    go_wp2_with fail
    obtain ⟨W6, hW6⟩ : ∃ W, (w5.setCell ⟨RB, 0, none⟩ (.int .i64 n)).setCell ⟨RB, 1, none⟩ (.slice ra5 m5 rc5) = W := ⟨_, rfl⟩
    have f6 : Fr0 (fun k => k = RB) w5 W6 := by rw [← hW6]; exact ((Fr0.refl (fun k => k = RB) w5).setCell (fun _ => rfl) _).setCell (fun _ => rfl) _
    have HB6 := Lib.hid (show W6.heap[RB]? = some (.cells #[.int .i64 n, .slice ra5 m5 rc5] 50 (0, 0)) by rw [← hW6]; exact heap_set_cell (heap_set_cell HB5.out _) _)
    rw [hW6]
    have HQ6 := Lib.hid (HQ5.out.fr0 f6 (fun k hk => (HS5.out k hk).2))
    have HR6 := Lib.hid (show RsK W6 n E5 ra5 rc5 ft5 from ⟨HR5.out.1.fr0 f6 (fun g o s e h => HN5.out g o s e h), HR5.out.2.1, fun g o s e => ⟨(HR5.out.2.2 g o s e).1, Nat.lt_of_lt_of_le (HR5.out.2.2 g o s e).2 f6.size⟩⟩)
    have F6 := Lib.hid (show Fr0 none' w W6 from F5.out.trans' f6 (fun k hk h => by have := HRw.out; omega))
    clear hW6 f6 u0 u1 t0 t1
    refine (same_any HQ6.out HR6.out.1 Hm5.out (by have := HR6.out.2.1; rw [Hm5.out] at this; exact this)).mono ?_
    rintro e w7 ⟨rfl, hf7⟩
    have HQ7 := Lib.hid (HQ6.out.later hf7)
    have HR7 := Lib.hid (show RsK w7 n E5 ra5 rc5 ft5 from ⟨HR6.out.1.later hf7, HR6.out.2.1, fun g o s e => ⟨(HR6.out.2.2 g o s e).1, Nat.lt_of_lt_of_le (HR6.out.2.2 g o s e).2 hf7.size⟩⟩)
    have HB7 := Lib.hid ((hf7.block RB (Array.getElem?_eq_some_iff.1 HB6.out).1 id).trans HB6.out)
    have F7 := Lib.hid (F6.out.trans hf7)
    clear hf7
    go_wp2_with fail
    refine ⟨⟨j + 1, T5, E5, ft5, ra5, rc5, qb5, m5, by omega, by go_num, rfl, by omega, Hm5.out, HQ7, HR7, HB7, HS5, HN5, F7⟩, ?_⟩
    simp [Go.RowKit.intOf]; omega
   ·have e1 : decide ((lk : Int) > 30) = true := decide_eq_true (by omega)
    have e2 : decide ((30 : Int) < (lk : Int)) = true := decide_eq_true (by omega)
    go_wp2_with fail
    obtain ⟨W4, hW4⟩ : ∃ W, wr.alloc (.cells #[.int .u8 kd, .int .i64 x.key.time, .int .i64 x.key.source, .int .i64 x.key.seq, .int .i64 x.to, .int .i64 x.value, .slice la lk lc, .int .i64 t] 32) = W := ⟨_, rfl⟩
    have f4 : Fr0 none' wr W4 := by rw [← hW4]; exact (Fr0.refl _ _).alloc _
    have HB4 := Lib.hid ((f4.block RB hRB id).trans HB.out)
    have HQ4 := Lib.hid (HQ.out.later f4)
    have HR4 : Hid (RsK W4 n E ra rc ft') := ⟨HR.out.1.later f4, HR.out.2.1, fun g o s e => ⟨(HR.out.2.2 g o s e).1, Nat.lt_of_lt_of_le (HR.out.2.2 g o s e).2 f4.size⟩⟩
    have F4 := Lib.hid (HF.out.trans f4)
    have Hok := Lib.hid (Hok.out.later f4)
    refine ⟨⟨j + 1, T, E, ft', ra, rc, qb', m, by omega, by go_num, rfl, by omega, Hm.out, ?_⟩, ?_⟩
    ·rw [hW4]
     exact ⟨HQ4, HR4, HB4, HS, HN, F4⟩
    ·simp [Go.RowKit.intOf]; omega
  ·go_wp2_with fail
   refine (same_any HQ.out HR.out.1 hm (by have := HR.out.2.1; rw [hm] at this; exact this)).mono ?_
   rintro e w7 ⟨rfl, hf7⟩
   have F7 := Lib.hid (HF.out.trans hf7)
   clear hf7
   go_wp2_with fail
   go_ret
   exact ⟨rfl, F7.out⟩

theorem tells_any {w : World} {u : Value} {xs : List Ac} (c : Int) (hu : AcsAt w u xs) (hl : xs.length ≤ 100) : Calls Tryz.prog 6 #[.int .i64 c, u] w fun e w' => e = .returned (.bool true) ∧ Fr0 none' w w' := by
 by_cases h : c < 0 ∨ 256 < c
 ·exact tells_bad c h
 ·have hc : c = ((c.toNat : Nat) : Int) := by omega
  rw [hc]
  exact tells_ok c.toNat (by omega) hu hl
end Go.Proofs.YtmcgipilopfgoaaGreat

/-
  EvqTells.
-/
namespace Go.Proofs.YtmcgipilopfgoaaGreat
open Go Go.RowKit
attribute [local go_sem ↓] Go.wp_at_zero Go.wp_at_succ
attribute [local go_sem] Oper.semAt_some wide_fn wide_depth wide_fnR wide_depthR

end Go.Proofs.YtmcgipilopfgoaaGreat
