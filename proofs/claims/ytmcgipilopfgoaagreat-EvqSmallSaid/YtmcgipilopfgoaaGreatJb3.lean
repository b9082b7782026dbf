/-
  The queue of events: what each function of the package does, and what the laws make of it.
-/
import Derived.Test.YtmcgipilopfgoaaGreatJb2
import Derived.Test.YtmcgipilopfgoaaGreatJb1
import Derived.Test.YtmcgipilopfgoaaGreatJa1
set_option linter.unusedSimpArgs false
set_option linter.unusedVariables false

/-
  The reference of layer 10: Put.
-/
namespace Go.Proofs.YtmcgipilopfgoaaGreat
open Go Go.RowKit
attribute [local go_sem ↓] Go.wp_at_zero Go.wp_at_succ
attribute [local go_sem] Oper.semAt_some wide_fn wide_depth wide_fnR wide_depthR

set_option maxRecDepth 100000 in
set_option maxHeartbeats 2000000 in
theorem rPut_any {w : World} {a : Option Addr} {m cap n : Nat} (E : List Ev) (h : EsIn w a E) (hl : E.length = m) (hm : m ≤ 1000) (hc : m ≤ cap) (hn : m ≤ n) (hn' : n ≤ 256) (x : Ev) :
  Calls Tryz.prog 55 #[.agg #[.int .i64 n, .slice a m cap], evV x] w fun e w' => ∃ v, e = .returned (.tuple #[v, .int .i64 (allV n E [x]).2]) ∧ RAt w' a w.heap.size n (allE n E [x]) v ∧ Fr0 none' w w' := by
 have H := Lib.hid h
 have Hl := Lib.hid hl
 have HR := Lib.hid (rRightE_any x)
 have HE := Lib.hid (fun (W : World) (hf : Fr0 none' w W) => rat_any E (h.later hf) hl (cap := cap) (by omega) x.key.source x.key.seq)
 have HW := Lib.hid (fun (W : World) (hf : Fr0 none' w W) => rwith_any E (h.later hf) hl (cap := cap) (by omega) x)
 have hsame := Lib.hid (fun (W : World) (hf : Fr0 none' w W) => (show RAt W a w.heap.size n E (.agg #[.int .i64 n, .slice a m cap]) by rw [← hl]; exact RAt.same h hf (by omega)))
 clear h hl
 unfold evV at HR HW ⊢
 obtain ⟨V, hV⟩ : ∃ V, (allV n E [x]).2 = V := ⟨_, rfl⟩
 obtain ⟨E', hE'⟩ : ∃ E', allE n E [x] = E' := ⟨_, rfl⟩
 rw [hV, hE']
 have HV := Lib.hid hV
 have HE' := Lib.hid hE'
 clear hV hE'
 go_enter Tryz.func55, Tryz.ntmps55
 go_wp2_with fail
 obtain ⟨SB, hSB⟩ : ∃ B, w.heap.size = B := ⟨_, rfl⟩
 obtain ⟨W1, hW1⟩ : ∃ W, w.alloc (.cells #[.int .i64 n, .slice a m cap] 50) = W := ⟨_, rfl⟩
 have hs1 : W1.heap[SB]? = some (.cells #[.int .i64 n, .slice a m cap] 50 (0, 0)) := by rw [← hW1, ← hSB]; exact World.alloc_heap_new w _
 have f1 : Fr0 none' w W1 := by rw [← hW1]; exact (Fr0.refl _ _).alloc _
 have z1 : W1.heap.size = SB + 1 := by rw [← hW1, World.size_alloc, hSB]
 rw [hW1]
 try rw [hSB]
 obtain ⟨W2, hW2⟩ : ∃ W, W1.alloc (.cells #[.int .i64 x.key.time, .int .i64 x.key.source, .int .i64 x.key.seq, .int .i64 x.to, .int .i64 x.value] 28) = W := ⟨_, rfl⟩
 have f2 : Fr0 none' W1 W2 := by rw [← hW2]; exact (Fr0.refl _ _).alloc _
 have hx2 : W2.heap[SB + 1]? = some (.cells (cev x).toArray 28 (0, 0)) := by rw [← hW2, ← z1]; exact World.alloc_heap_new W1 _
 have z2 : W2.heap.size = SB + 1 + 1 := by rw [← hW2, World.size_alloc, z1]
 rw [hW2]
 obtain ⟨W, hW⟩ : ∃ W, W2.alloc (.cells #[.int .i64 0, .slice none 0 0] 50) = W := ⟨_, rfl⟩
 have f3 : Fr0 none' W2 W := by rw [← hW]; exact (Fr0.refl _ _).alloc _
 have HZ := Lib.hid (show W.heap[SB + 1 + 1]? = some (.cells #[.int .i64 0, .slice none 0 0] 50 (0, 0)) by rw [← hW, ← z2]; exact World.alloc_heap_new W2 _)
 have HX := Lib.hid ((f3.block (SB + 1) (Array.getElem?_eq_some_iff.1 hx2).1 id).trans hx2)
 have HS := Lib.hid (((f2.trans f3).block SB (Array.getElem?_eq_some_iff.1 hs1).1 id).trans hs1)
 have HF := Lib.hid ((f1.trans f2).trans f3)
 have HSB := Lib.hid hSB
 rw [hW]
 clear hW1 hSB hs1 f1 hW2 f2 f3 hW z1 z2 hx2
 refine (HR.out _).mono ?_
 rintro e w2 ⟨rfl, hf⟩
 have HS := Lib.hid ((hf.block SB (Array.getElem?_eq_some_iff.1 HS.out).1 id).trans HS.out)
 have HX := Lib.hid ((hf.block (SB + 1) (Array.getElem?_eq_some_iff.1 HX.out).1 id).trans HX.out)
 have HZ := Lib.hid ((hf.block (SB + 1 + 1) (Array.getElem?_eq_some_iff.1 HZ.out).1 id).trans HZ.out)
 have HF := Lib.hid (HF.out.trans hf)
 clear hf
 have s0 := cells_in HS.out 0
 have s1 := cells_in HS.out 1
 simp at s0 s1
 have a0 := cells_in HX.out 0
 have a1 := cells_in HX.out 1
 have a2 := cells_in HX.out 2
 have a3 := cells_in HX.out 3
 have a4 := cells_in HX.out 4
 simp [cev] at a0 a1 a2 a3 a4
 by_cases hr : RightE x
 ·rw [decide_eq_true hr]
  obtain ⟨hv1, hv2, hv3⟩ := one_ok (n := n) (E := E) hr
  rw [HV.out] at hv1
  rw [HE'.out] at hv2
  have Hv1 := Lib.hid hv1
  have Hv2 := Lib.hid hv2
  have Hv3 := Lib.hid hv3
  clear hv1 hv2 hv3 hr
  go_wp2_with fail
  refine (HE.out _ HF.out).mono ?_
  rintro e w3 ⟨rfl, rfl⟩
  obtain ⟨i, hi⟩ : ∃ i, atE (x.key.source, x.key.seq) E = i := ⟨_, rfl⟩
  rw [hi]
  rw [show atE x.name E = i from hi] at Hv1 Hv2 Hv3
  clear hi
  by_cases h0 : 0 ≤ i
  ·have d1 : decide (i ≥ 0) = true := decide_eq_true h0
   have d2 : decide (0 ≤ i) = true := decide_eq_true h0
   have hv1 := Hv1.out
   have hv2 := Hv2.out
   rw [if_pos h0] at hv1 hv2
   have Hw1 := Lib.hid hv1
   have Hw2 := Lib.hid hv2
   clear h0 hv1 hv2
   have t0 := thaw_in HZ.out 0
   have t1 := thaw_in HZ.out 1
   have u0 := cells_in HZ.out 0
   have u1 := cells_in HZ.out 1
   simp at u0 u1
   go_wp2_with fail
   obtain ⟨W6, hW6⟩ : ∃ W, ((w2).setCell ⟨SB + 1 + 1, 0, none⟩ (.int .i64 n)).setCell ⟨SB + 1 + 1, 1, none⟩ (.slice a m cap) = W := ⟨_, rfl⟩
   have hg : SB + 1 + 1 < w.heap.size → none' (SB + 1 + 1) := fun e => by have := HSB.out; omega
   have f6 : Fr0 none' w W6 := by rw [← hW6]; exact (HF.out.setCell hg _).setCell hg _
   have hb6 : W6.heap[SB + 1 + 1]? = some (.cells #[.int .i64 n, .slice a m cap] 50 (0, 0)) := by rw [← hW6]; exact heap_set_cell (heap_set_cell HZ.out _) _
   rw [hW6]
   clear hW6 t0 t1 u0 u1
   have r0 := cells_in hb6 0
   have r1 := cells_in hb6 1
   simp at r0 r1
   refine bodyPost_ret (v := .tuple #[.agg #[.int .i64 n, .slice a m cap], .int .i64 101]) (by simp [results, Tryz.results55, go_sem, r0, r1]) rfl ⟨_, by rw [Hw1.out], ?_, f6⟩
   rw [Hw2.out]
   exact hsame.out _ f6
  ·have d1 : decide (i ≥ 0) = false := decide_eq_false h0
   have d2 : decide (0 ≤ i) = false := decide_eq_false h0
   have hv1 := Hv1.out
   have hv2 := Hv2.out
   have hv3 := Hv3.out (by omega)
   rw [if_neg h0] at hv1 hv2
   have Hv3 := Lib.hid hv3
   have Hlm := Hl.out
   by_cases hfull : n ≤ m
   ·have d3 : decide ((m : Int) ≥ (n : Int)) = true := decide_eq_true (by omega)
    have d4 : decide ((n : Int) ≤ (m : Int)) = true := decide_eq_true (by omega)
    have d5 : decide (n ≤ m) = true := decide_eq_true hfull
    rw [if_pos (by omega)] at hv1 hv2
    have Hw1 := Lib.hid hv1
    have Hw2 := Lib.hid hv2
    clear h0 hv1 hv2 hv3 Hlm hfull
    have t0 := thaw_in HZ.out 0
    have t1 := thaw_in HZ.out 1
    have u0 := cells_in HZ.out 0
    have u1 := cells_in HZ.out 1
    simp at u0 u1
    go_wp2_with fail
    obtain ⟨W6, hW6⟩ : ∃ W, ((w2).setCell ⟨SB + 1 + 1, 0, none⟩ (.int .i64 n)).setCell ⟨SB + 1 + 1, 1, none⟩ (.slice a m cap) = W := ⟨_, rfl⟩
    have hg : SB + 1 + 1 < w.heap.size → none' (SB + 1 + 1) := fun e => by have := HSB.out; omega
    have f6 : Fr0 none' w W6 := by rw [← hW6]; exact (HF.out.setCell hg _).setCell hg _
    have hb6 : W6.heap[SB + 1 + 1]? = some (.cells #[.int .i64 n, .slice a m cap] 50 (0, 0)) := by rw [← hW6]; exact heap_set_cell (heap_set_cell HZ.out _) _
    rw [hW6]
    clear hW6 t0 t1 u0 u1
    have r0 := cells_in hb6 0
    have r1 := cells_in hb6 1
    simp at r0 r1
    refine bodyPost_ret (v := .tuple #[.agg #[.int .i64 n, .slice a m cap], .int .i64 4]) (by simp [results, Tryz.results55, go_sem, r0, r1]) rfl ⟨_, by rw [Hw1.out], ?_, f6⟩
    rw [Hw2.out]
    exact hsame.out _ f6
   ·have d3 : decide ((m : Int) ≥ (n : Int)) = false := decide_eq_false (by omega)
    have d4 : decide ((n : Int) ≤ (m : Int)) = false := decide_eq_false (by omega)
    have d5 : decide (n ≤ m) = false := decide_eq_false hfull
    rw [if_neg (by omega)] at hv1 hv2
    have Hw1 := Lib.hid hv1
    have Hw2 := Lib.hid hv2
    clear h0 hv1 hv2 hv3 Hlm hfull
    go_wp2_with fail
    have Hwe := Lib.hid (withE_ins Hv3.out)
    have HY := Lib.hid (fun (W' : World) (hf : Fr0 (fun k => k = SB + 1 + 1) w2 W') => (show W'.cell? ⟨SB, 0, none⟩ = some (.int .i64 n) ∧ W'.cell? ⟨SB, 1, none⟩ = some (.slice a m cap) ∧ EAt W' (SB + 1) 0 x from by
     have h7 := (hf.block SB (Array.getElem?_eq_some_iff.1 HS.out).1 (fun h => by omega)).trans HS.out
     have h8 := (hf.block (SB + 1) (Array.getElem?_eq_some_iff.1 HX.out).1 (fun h => by omega)).trans HX.out
     have s0 := cells_in h7 0
     have s1 := cells_in h7 1
     have c0 := cells_in h8 0
     have c1 := cells_in h8 1
     have c2 := cells_in h8 2
     have c3 := cells_in h8 3
     have c4 := cells_in h8 4
     simp [cev] at c0 c1 c2 c3 c4
     simp at s0 s1
     exact ⟨s0, s1, c0, c1, c2, c3, c4⟩))
    clear s0 s1 a0 a1 a2 a3 a4
    refine wp_region_held_drew (S := fun W' => Fr0 (fun k => k = SB + 1 + 1) w2 W') (by kernel_rfl) ((Fr0.refl _ w2).drew) (fun hHeld => ?_)
    refine tkn (i := 0) (v := .pointer (some ⟨SB, 0, none⟩)) (fun W' hSW => ?_) ?_
    ·obtain ⟨s0, s1, b0, b1, b2, b3, b4⟩ := HY.out W' hSW
     first | (go_simp; done) | exact rfl | (go_simp; rfl) | (go_simp; omega)
    try simp only [pUt, pUn, sEt, sEz, sEs]
    refine tkn (i := 1) (v := .int .i64 n) (fun W' hSW => ?_) ?_
    ·obtain ⟨s0, s1, b0, b1, b2, b3, b4⟩ := HY.out W' hSW
     first | (go_simp; done) | exact rfl | (go_simp; rfl) | (go_simp; omega)
    try simp only [pUt, pUn, sEt, sEz, sEs]
    refine tkn (i := 2) (v := .pointer (some ⟨SB, 1, none⟩)) (fun W' hSW => ?_) ?_
    ·obtain ⟨s0, s1, b0, b1, b2, b3, b4⟩ := HY.out W' hSW
     first | (go_simp; done) | exact rfl | (go_simp; rfl) | (go_simp; omega)
    try simp only [pUt, pUn, sEt, sEz, sEs]
    refine tkn (i := 3) (v := .slice a m cap) (fun W' hSW => ?_) ?_
    ·obtain ⟨s0, s1, b0, b1, b2, b3, b4⟩ := HY.out W' hSW
     first | (go_simp; done) | exact rfl | (go_simp; rfl) | (go_simp; omega)
    try simp only [pUt, pUn, sEt, sEz, sEs]
    refine tkn (i := 4) (v := .agg #[.int .i64 x.key.time, .int .i64 x.key.source, .int .i64 x.key.seq, .int .i64 x.to, .int .i64 x.value]) (fun W' hSW => ?_) ?_
    ·obtain ⟨s0, s1, b0, b1, b2, b3, b4⟩ := HY.out W' hSW
     first | (go_simp; done) | exact rfl | (go_simp; rfl) | (go_simp; omega)
    try simp only [pUt, pUn, sEt, sEz, sEs]
    refine take_call (i := 5) rfl (by kernel_rfl) (by kernel_rfl) (fun K hK => ?_)
    go_simp
    refine (HW.out _ (HF.out.drew)).mono ?_
    rintro e w5 ⟨v, rfl, hrow, hf⟩
    obtain ⟨va, vc, rfl, _, _⟩ := EsIn.of_own hrow
    have hlt5 := hrow.lt
    have hf2 : Fr0 none' w2 w5 := ((Fr0.refl none' w2).drew).trans hf
    have HRow := Lib.hid hrow
    have hzl : SB + 1 + 1 < w2.heap.size := (Array.getElem?_eq_some_iff.1 HZ.out).1
    have Hzl := Lib.hid hzl
    clear hlt5 hzl
    clear hrow hf
    go_wp2_with fail
    refine hK.out _ _ (hf2.mono (fun _ _ h => h.elim)) (fun hS => ?_)
    clear hK K
    try simp only [pUt, pUn, sEt, sEz, sEs]
    refine tkn (i := 6) (v := .agg #[.int .i64 n, .slice va (withE x E).length vc]) (fun W' hSW => ?_) ?_
    ·obtain ⟨s0, s1, b0, b1, b2, b3, b4⟩ := HY.out W' hSW
     first | (go_simp; done) | exact rfl | (go_simp; rfl) | (go_simp; omega)
    try simp only [pUt, pUn, sEt, sEz, sEs]
    have HZ := Lib.hid ((hf2.block (SB + 1 + 1) (Array.getElem?_eq_some_iff.1 HZ.out).1 id).trans HZ.out)
    have HFw := HF
    have HF := Lib.hid (HF.out.trans hf2)
    have t0 := thaw_in HZ.out 0
    have t1 := thaw_in HZ.out 1
    have u0 := cells_in HZ.out 0
    have u1 := cells_in HZ.out 1
    simp at u0 u1
    refine take_call (i := 7) rfl (by kernel_rfl) (by kernel_rfl) (fun K hK => ?_)
    go_simp
    obtain ⟨W6, hW6⟩ : ∃ W, (w5.setCell ⟨SB + 1 + 1, 0, none⟩ (.int .i64 n)).setCell ⟨SB + 1 + 1, 1, none⟩ (.slice va (withE x E).length vc) = W := ⟨_, rfl⟩
    have hg : SB + 1 + 1 < w.heap.size → none' (SB + 1 + 1) := fun e => by have := HSB.out; omega
    have f6 : Fr0 none' w W6 := by rw [← hW6]; exact (HF.out.setCell hg _).setCell hg _
    have f56 : Fr0 (fun k => k = SB + 1 + 1) w5 W6 := by rw [← hW6]; exact ((Fr0.refl (fun k => k = SB + 1 + 1) w5).setCell (fun _ => rfl) _).setCell (fun _ => rfl) _
    have hb6 : W6.heap[SB + 1 + 1]? = some (.cells #[.int .i64 n, .slice va (withE x E).length vc] 50 (0, 0)) := by rw [← hW6]; exact heap_set_cell (heap_set_cell HZ.out _) _
    rw [hW6]
    refine hK.out _ _ ((hf2.mono (fun _ _ h => h.elim)).trans f56) (fun hS => ?_)
    clear hK K hW6 t0 t1 u0 u1
    try simp only [pUt, pUn, sEt, sEz, sEs]
    refine tkn (i := 8) (v := .int .i64 0) (fun W' hSW => ?_) ?_
    ·obtain ⟨s0, s1, b0, b1, b2, b3, b4⟩ := HY.out W' hSW
     first | (go_simp; done) | exact rfl | (go_simp; rfl) | (go_simp; omega)
    try simp only [pUt, pUn, sEt, sEz, sEs]
    refine wpAnyH_done (by kernel_rfl) ?_ _
    have r0 := cells_in hb6 0
    have r1 := cells_in hb6 1
    simp at r0 r1
    have F56 := Lib.hid f56
    have F6 := Lib.hid f6
    clear f56 f6 hHeld hS
    go_wp2_with fail
    refine bodyPost_ret (v := .tuple #[.agg #[.int .i64 n, .slice va (withE x E).length vc], .int .i64 0]) (by simp [results, Tryz.results55, go_sem, r0, r1]) rfl ⟨_, by rw [Hw1.out], ?_, F6.out⟩
    rw [Hw2.out, ← Hwe.out]
    exact RAt.own (ownsRow_fr0 HRow.out F56.out (fun g hg e => by have h7 := (HRow.out.lt g hg).1; have h8 := Hzl.out; have h9 : w2.drew.heap.size = w2.heap.size := rfl; omega)) (show w.heap.size ≤ w2.drew.heap.size from HFw.out.size)
 ·rw [decide_eq_false hr]
  obtain ⟨hv1, hv2⟩ := one_bad (n := n) (E := E) hr
  rw [HV.out] at hv1
  rw [HE'.out] at hv2
  have Hv1 := Lib.hid hv1
  have Hv2 := Lib.hid hv2
  clear hv1 hv2 hr
  have t0 := thaw_in HZ.out 0
  have t1 := thaw_in HZ.out 1
  have u0 := cells_in HZ.out 0
  have u1 := cells_in HZ.out 1
  simp at u0 u1
  go_wp2_with fail
  obtain ⟨W6, hW6⟩ : ∃ W, ((w2).setCell ⟨SB + 1 + 1, 0, none⟩ (.int .i64 n)).setCell ⟨SB + 1 + 1, 1, none⟩ (.slice a m cap) = W := ⟨_, rfl⟩
  have hg : SB + 1 + 1 < w.heap.size → none' (SB + 1 + 1) := fun e => by have := HSB.out; omega
  have f6 : Fr0 none' w W6 := by rw [← hW6]; exact (HF.out.setCell hg _).setCell hg _
  have hb6 : W6.heap[SB + 1 + 1]? = some (.cells #[.int .i64 n, .slice a m cap] 50 (0, 0)) := by rw [← hW6]; exact heap_set_cell (heap_set_cell HZ.out _) _
  rw [hW6]
  clear hW6 t0 t1 u0 u1
  have r0 := cells_in hb6 0
  have r1 := cells_in hb6 1
  simp at r0 r1
  refine bodyPost_ret (v := .tuple #[.agg #[.int .i64 n, .slice a m cap], .int .i64 100]) (by simp [results, Tryz.results55, go_sem, r0, r1]) rfl ⟨_, by rw [Hv1.out], ?_, f6⟩
  rw [Hv2.out]
  exact hsame.out _ f6
end Go.Proofs.YtmcgipilopfgoaaGreat

/-
  The reference of layer 10: PutAll.
-/
namespace Go.Proofs.YtmcgipilopfgoaaGreat
open Go Go.RowKit
attribute [local go_sem ↓] Go.wp_at_zero Go.wp_at_succ
attribute [local go_sem] Oper.semAt_some wide_fn wide_depth wide_fnR wide_depthR

theorem RAt.base {w1 w2 : World} {a a' : Option Addr} {N N' : Nat} {c : Int} {E : List Ev} {v : Value} (h : RAt w2 a' N' c E v) (h0 : ∀ g o s, a' = some ⟨g, o, s⟩ → (∃ o' s', a = some ⟨g, o', s'⟩) ∨ (N ≤ g ∧ g < w1.heap.size)) (hN : N ≤ N') (hs : w1.heap.size ≤ w2.heap.size) : RAt w2 a N c E v := by
 obtain ⟨b, cap, h1, h2, h3, h4⟩ := h
 refine ⟨b, cap, h1, h2, h3, fun g o s e => ?_⟩
 rcases h4 g o s e with ⟨o', s', e'⟩ | h5
 ·rcases h0 g o' s' e' with h6 | h6
  ·exact .inl h6
  ·exact .inr (by omega)
 ·exact .inr (by omega)
set_option maxRecDepth 100000 in
set_option maxHeartbeats 2000000 in
theorem rPutAll_any {w : World} {a la : Option Addr} {m cap n k lc : Nat} (E l : List Ev) (h : EsIn w a E) (hl : E.length = m) (hm : m ≤ 1000) (hc : m ≤ cap) (hn : m ≤ n) (hn' : n ≤ 256) (hll : EsIn w la l) (hlk : l.length = k) (hk : k ≤ 1000) (hlc : k ≤ lc) (hal : ∀ g o s, a = some ⟨g, o, s⟩ → g < w.heap.size) (hoE : OnceE E) :
  Calls Tryz.prog 47 #[.agg #[.int .i64 n, .slice a m cap], .slice la k lc] w fun e w' => ∃ v, e = .returned (.tuple #[v, .int .i64 (allV n E l).1, .int .i64 (allV n E l).2]) ∧ RAt w' a w.heap.size n (allE n E l) v ∧ Fr0 none' w w' := by
 have H := Lib.hid h
 have Hl := Lib.hid hl
 have Hk := Lib.hid hlk
 have HLl := Lib.hid hll
 have hsame := Lib.hid (fun (W : World) (hf : Fr0 none' w W) => (show RAt W a w.heap.size n E (.agg #[.int .i64 n, .slice a m cap]) by rw [← hl]; exact RAt.same h hf (by omega)))
 have hsame2 := Lib.hid (fun (W : World) (hf : Fr0 none' w W) => (show RAt W a (w.heap.size + 2) n E (.agg #[.int .i64 n, .slice a m cap]) by rw [← hl]; exact RAt.same h hf (by omega)))
 have HOe := Lib.hid hoE
 have Hal := Lib.hid hal
 clear h hl hll hlk hal hoE
 obtain ⟨V, hV⟩ : ∃ V, allV n E l = V := ⟨_, rfl⟩
 obtain ⟨E', hE'⟩ : ∃ E', allE n E l = E' := ⟨_, rfl⟩
 rw [hV, hE']
 have HV := Lib.hid hV
 have HE' := Lib.hid hE'
 clear hV hE'
 go_enter Tryz.func47, Tryz.ntmps47
 go_wp2_with fail
 obtain ⟨SB, hSB⟩ : ∃ B, w.heap.size = B := ⟨_, rfl⟩
 obtain ⟨W1, hW1⟩ : ∃ W, w.alloc (.cells #[.int .i64 n, .slice a m cap] 50) = W := ⟨_, rfl⟩
 have hs1 : W1.heap[SB]? = some (.cells #[.int .i64 n, .slice a m cap] 50 (0, 0)) := by rw [← hW1, ← hSB]; exact World.alloc_heap_new w _
 have f1 : Fr0 none' w W1 := by rw [← hW1]; exact (Fr0.refl _ _).alloc _
 have z1 : W1.heap.size = SB + 1 := by rw [← hW1, World.size_alloc, hSB]
 rw [hW1]
 try rw [hSB]
 obtain ⟨W, hW⟩ : ∃ W, W1.alloc (.cells #[.int .i64 0, .slice none 0 0] 50) = W := ⟨_, rfl⟩
 have f3 : Fr0 none' W1 W := by rw [← hW]; exact (Fr0.refl _ _).alloc _
 have HZ := Lib.hid (show W.heap[SB + 1]? = some (.cells #[.int .i64 0, .slice none 0 0] 50 (0, 0)) by rw [← hW, ← z1]; exact World.alloc_heap_new W1 _)
 have HS := Lib.hid ((f3.block SB (Array.getElem?_eq_some_iff.1 hs1).1 id).trans hs1)
 have HF := Lib.hid (f1.trans f3)
 rw [hSB] at hsame2
 have HSB := Lib.hid hSB
 rw [hW]
 clear hW1 hSB hs1 f1 f3 hW z1
 go_loopw [7] (fun v7 wr => ∃ i : Nat, i ≤ k ∧ v7 = .int .i64 i ∧ Hid (∀ y ∈ l.take i, RightE y) ∧ Hid (wr.heap[SB]? = some (.cells #[.int .i64 n, .slice a m cap] 50 (0, 0))) ∧ Hid (wr.heap[SB + 1]? = some (.cells #[.int .i64 0, .slice none 0 0] 50 (0, 0))) ∧ Hid (Fr0 none' w wr)) (fun v7 _ => k - (Go.RowKit.intOf v7).toNat)
 case atStart => exact ⟨0, Nat.zero_le _, rfl, by unfold Hid; simp, HS, HZ, HF⟩
 case round =>
  obtain ⟨i, hi, rfl, HP, HS, HZ, HF⟩ := hrel
  by_cases hlt : i < k
  ·obtain ⟨x, hx⟩ : ∃ x, l[i]? = some x := ⟨_, List.getElem?_eq_getElem (by rw [Hk.out]; exact hlt)⟩
   obtain ⟨g2, o, rfl, hxc⟩ := HLl.out i x hx
   obtain ⟨x0, x1, x2, x3, x4⟩ := hxc.later HF.out
   have k1 : (0 : Int) ≤ (i : Int) := by omega
   have k2 : (i : Int) < (k : Int) := by omega
   have Hx := Lib.hid hx
   have HR := Lib.hid (rRightE_any x)
   unfold evV at HR
   clear hx hxc
   go_wp2_with fail
   refine (HR.out _).mono ?_
   rintro e w2 ⟨rfl, hf⟩
   clear x0 x1 x2 x3 x4
   have HS := Lib.hid ((hf.block SB (Array.getElem?_eq_some_iff.1 HS.out).1 id).trans HS.out)
   have HZ := Lib.hid ((hf.block (SB + 1) (Array.getElem?_eq_some_iff.1 HZ.out).1 id).trans HZ.out)
   have HF := Lib.hid (HF.out.trans hf)
   clear hf
   by_cases hr : RightE x
   ·rw [decide_eq_true hr]
    have HP1 := Lib.hid (show ∀ y ∈ l.take (i + 1), RightE y from fun y hy => by
     rw [List.take_add_one, Hx.out, List.mem_append] at hy
     rcases hy with hy | hy
     ·exact HP.out y hy
     ·simp at hy; subst hy; exact hr)
    clear hr
    go_wp2_with fail
    go_roundw
    case rel => exact ⟨i + 1, by omega, by go_num, HP1, HS, HZ, HF⟩
    case measure => simp [Go.RowKit.intOf]; omega
   ·rw [decide_eq_false hr]
    obtain ⟨ea, eb⟩ := allV_bad (n := n) (E := E) HP.out Hx.out hr
    have hv := HV.out
    have he := HE'.out
    rw [ea] at hv
    rw [eb] at he
    subst hv
    subst he
    clear hr ea eb
    have t0 := thaw_in HZ.out 0
    have t1 := thaw_in HZ.out 1
    have s0 := cells_in HS.out 0
    have s1 := cells_in HS.out 1
    have u0 := cells_in HZ.out 0
    have u1 := cells_in HZ.out 1
    simp at u0 u1 s0 s1
    go_wp2_with fail
    obtain ⟨W6, hW6⟩ : ∃ W, ((w2).setCell ⟨SB + 1, 0, none⟩ (.int .i64 n)).setCell ⟨SB + 1, 1, none⟩ (.slice a m cap) = W := ⟨_, rfl⟩
    have hg : SB + 1 < w.heap.size → none' (SB + 1) := fun e => by have := HSB.out; omega
    have f6 : Fr0 none' w W6 := by rw [← hW6]; exact (HF.out.setCell hg _).setCell hg _
    have hb6 : W6.heap[SB + 1]? = some (.cells #[.int .i64 n, .slice a m cap] 50 (0, 0)) := by rw [← hW6]; exact heap_set_cell (heap_set_cell HZ.out _) _
    have f7 : Fr0 (fun k => k = SB + 1) (w2) W6 := by rw [← hW6]; exact ((Fr0.refl (fun k => k = SB + 1) (w2)).setCell (fun _ => rfl) _).setCell (fun _ => rfl) _
    rw [hW6]
    clear hW6 t0 t1 u0 u1
    have r0 := cells_in hb6 0
    have r1 := cells_in hb6 1
    simp at r0 r1
    refine bodyPost_ret (v := .tuple #[.agg #[.int .i64 n, .slice a m cap], .int .i64 i, .int .i64 100]) (by simp [results, Tryz.results47, go_sem, r0, r1]) rfl ⟨_, by first | rfl | rw [rfl], ?_, f6⟩
    exact hsame.out _ f6
  ·have hall := HP.out
   rw [List.take_of_length_le (by rw [Hk.out]; omega)] at hall
   have HRa := Lib.hid hall
   clear hall
   go_wp2_with fail
   clear HP
   go_loopw [8, 9] (fun v8 _ wr => ∃ i : Nat, i ≤ k ∧ v8 = .int .i64 i ∧ Hid (∀ t, t < i → dupB E l t = false) ∧ Hid (wr.heap[SB]? = some (.cells #[.int .i64 n, .slice a m cap] 50 (0, 0))) ∧ Hid (wr.heap[SB + 1]? = some (.cells #[.int .i64 0, .slice none 0 0] 50 (0, 0))) ∧ Hid (Fr0 none' w wr)) (fun v8 _ _ => k - (Go.RowKit.intOf v8).toNat)
   case atStart => exact ⟨0, Nat.zero_le _, rfl, (fun t ht => by omega), HS, HZ, HF⟩
   case round =>
    clear hlt hi
    obtain ⟨i, hi, rfl, HP, HS, HZ, HF⟩ := hrel
    by_cases hlt : i < k
    ·obtain ⟨x, hx⟩ : ∃ x, l[i]? = some x := ⟨_, List.getElem?_eq_getElem (by rw [Hk.out]; exact hlt)⟩
     obtain ⟨g2, o, rfl, hxc⟩ := HLl.out i x hx
     obtain ⟨x0, x1, x2, x3, x4⟩ := hxc.later HF.out
     have k1 : (0 : Int) ≤ (i : Int) := by omega
     have k2 : (i : Int) < (k : Int) := by omega
     have k3 : (i : Int) ≤ (lc : Int) := by omega
     have Hx := Lib.hid hx
     clear hx hxc
     go_wp2_with fail
     obtain ⟨kb, hkb⟩ : ∃ b, wr.heap.size = b := ⟨_, rfl⟩
     obtain ⟨W5, hW5⟩ : ∃ W, wr.alloc (.cells #[.int .i64 x.key.time, .int .i64 x.key.source, .int .i64 x.key.seq] 26) = W := ⟨_, rfl⟩
     have hK5 : W5.heap[kb]? = some (.cells #[.int .i64 x.key.time, .int .i64 x.key.source, .int .i64 x.key.seq] 26 (0, 0)) := by rw [← hW5, ← hkb]; exact World.alloc_heap_new _ _
     have hf : Fr0 none' wr W5 := by rw [← hW5]; exact (Fr0.refl _ _).alloc _
     rw [hW5]
     try rw [hkb]
     clear hW5 hkb x0 x1 x2 x3 x4
     have HS := Lib.hid ((hf.block SB (Array.getElem?_eq_some_iff.1 HS.out).1 id).trans HS.out)
     have HZ := Lib.hid ((hf.block (SB + 1) (Array.getElem?_eq_some_iff.1 HZ.out).1 id).trans HZ.out)
     have HF := Lib.hid (HF.out.trans hf)
     clear hf
     have HY := Lib.hid (fun (W' : World) (hf : Fr0 none' W5 W') => (show W'.cell? ⟨SB, 1, none⟩ = some (.slice a m cap) ∧ W'.cell? ⟨kb, 0, none⟩ = some (.int .i64 x.key.time) ∧ W'.cell? ⟨kb, 1, none⟩ = some (.int .i64 x.key.source) ∧ W'.cell? ⟨kb, 2, none⟩ = some (.int .i64 x.key.seq) from by
      have h7 := (hf.block SB (Array.getElem?_eq_some_iff.1 HS.out).1 id).trans HS.out
      have h8 := (hf.block kb (Array.getElem?_eq_some_iff.1 hK5).1 id).trans hK5
      have s1 := cells_in h7 1
      have b0 := cells_in h8 0
      have b1 := cells_in h8 1
      have b2 := cells_in h8 2
      simp at s1 b0 b1 b2
      exact ⟨s1, b0, b1, b2⟩))
     have HE1 := Lib.hid (fun (W : World) (hf : Fr0 none' w W) => rat_any E (H.out.later hf) Hl.out (cap := cap) (by omega) x.key.source x.key.seq)
     have HE2 := Lib.hid (fun (W : World) (hf : Fr0 none' w W) => rat_any (l.take i) ((HLl.out.take i).later hf) (n := i) (by rw [List.length_take, Hk.out]; omega) (cap := lc) (by omega) x.key.source x.key.seq)
     clear hK5
     refine wp_region_held_drew (S := fun W' => Fr0 none' W5 W') (by kernel_rfl) ((Fr0.refl _ W5).drew) (fun hHeld => ?_)
     refine tkn (i := 0) (v := .pointer (some ⟨SB, 1, none⟩)) (fun W' hSW => ?_) ?_
     ·obtain ⟨s1, b0, b1, b2⟩ := HY.out W' hSW
      first | (go_simp; done) | exact rfl | (go_simp; rfl) | (go_simp; omega)
     try simp only [pUt, pUn, sEt, sEz, sEs]
     refine tkn (i := 1) (v := .slice a m cap) (fun W' hSW => ?_) ?_
     ·obtain ⟨s1, b0, b1, b2⟩ := HY.out W' hSW
      first | (go_simp; done) | exact rfl | (go_simp; rfl) | (go_simp; omega)
     try simp only [pUt, pUn, sEt, sEz, sEs]
     refine tkn (i := 2) (v := .pointer (some ⟨kb, 1, none⟩)) (fun W' hSW => ?_) ?_
     ·obtain ⟨s1, b0, b1, b2⟩ := HY.out W' hSW
      first | (go_simp; done) | exact rfl | (go_simp; rfl) | (go_simp; omega)
     try simp only [pUt, pUn, sEt, sEz, sEs]
     refine tkn (i := 3) (v := .int .i64 x.key.source) (fun W' hSW => ?_) ?_
     ·obtain ⟨s1, b0, b1, b2⟩ := HY.out W' hSW
      first | (go_simp; done) | exact rfl | (go_simp; rfl) | (go_simp; omega)
     try simp only [pUt, pUn, sEt, sEz, sEs]
     refine tkn (i := 4) (v := .pointer (some ⟨kb, 2, none⟩)) (fun W' hSW => ?_) ?_
     ·obtain ⟨s1, b0, b1, b2⟩ := HY.out W' hSW
      first | (go_simp; done) | exact rfl | (go_simp; rfl) | (go_simp; omega)
     try simp only [pUt, pUn, sEt, sEz, sEs]
     refine tkn (i := 5) (v := .int .i64 x.key.seq) (fun W' hSW => ?_) ?_
     ·obtain ⟨s1, b0, b1, b2⟩ := HY.out W' hSW
      first | (go_simp; done) | exact rfl | (go_simp; rfl) | (go_simp; omega)
     try simp only [pUt, pUn, sEt, sEz, sEs]
     refine take_call (i := 6) rfl (by kernel_rfl) (by kernel_rfl) (fun K hK => ?_)
     go_simp
     refine (HE1.out _ HF.out.drew).mono ?_
     rintro e w5 ⟨rfl, rfl⟩
     obtain ⟨i1, hi1⟩ : ∃ i1, atE (x.key.source, x.key.seq) E = i1 := ⟨_, rfl⟩
     rw [hi1]
     have Hi1 := Lib.hid (show atE x.name E = i1 from hi1)
     clear hi1
     go_wp2_with fail
     refine hK.out _ _ hHeld (fun hS => ?_)
     clear hK K hS
     try simp only [pUt, pUn, sEt, sEz, sEs]
     by_cases hi1 : 0 ≤ i1
     ·have d1 : decide (i1 ≥ 0) = true := decide_eq_true hi1
      have d2 : decide (0 ≤ i1) = true := decide_eq_true hi1
      refine tkn (i := 7) (v := .bool true) (fun W' hSW => ?_) ?_
      ·obtain ⟨s1, b0, b1, b2⟩ := HY.out W' hSW
       first | (go_simp; done) | exact rfl | (go_simp; rfl) | (go_simp; omega)
      try simp only [pUt, pUn, sEt, sEz, sEs]
      refine tkn (i := 8) (v := .bool true) (fun W' hSW => ?_) ?_
      ·obtain ⟨s1, b0, b1, b2⟩ := HY.out W' hSW
       first | (go_simp; done) | exact rfl | (go_simp; rfl) | (go_simp; omega)
      try simp only [pUt, pUn, sEt, sEz, sEs]
      refine take_off (i := 9) rfl (by kernel_rfl) (by kernel_rfl) (by kernel_rfl) (fun _ _ _ h => h) (by kernel_rfl) (by assumption) ?_
      try simp only [pUt, pUn, sEt, sEz, sEs]
      refine take_off (i := 10) rfl (by kernel_rfl) (by kernel_rfl) (by kernel_rfl) (fun _ _ _ h => h) (by kernel_rfl) (by assumption) ?_
      try simp only [pUt, pUn, sEt, sEz, sEs]
      refine take_off (i := 11) rfl (by kernel_rfl) (by kernel_rfl) (by kernel_rfl) (fun _ _ _ h => h) (by kernel_rfl) (by assumption) ?_
      try simp only [pUt, pUn, sEt, sEz, sEs]
      refine take_off (i := 12) rfl (by kernel_rfl) (by kernel_rfl) (by kernel_rfl) (fun _ _ _ h => h) (by kernel_rfl) (by assumption) ?_
      try simp only [pUt, pUn, sEt, sEz, sEs]
      refine take_off (i := 13) rfl (by kernel_rfl) (by kernel_rfl) (by kernel_rfl) (fun _ _ _ h => h) (by kernel_rfl) (by assumption) ?_
      try simp only [pUt, pUn, sEt, sEz, sEs]
      refine take_off (i := 14) rfl (by kernel_rfl) (by kernel_rfl) (by kernel_rfl) (fun _ _ _ h => h) (by kernel_rfl) (by assumption) ?_
      try simp only [pUt, pUn, sEt, sEz, sEs]
      refine take_off (i := 15) rfl (by kernel_rfl) (by kernel_rfl) (by kernel_rfl) (fun _ _ _ h => h) (by kernel_rfl) (by assumption) ?_
      try simp only [pUt, pUn, sEt, sEz, sEs]
      refine take_off (i := 16) rfl (by kernel_rfl) (by kernel_rfl) (by kernel_rfl) (fun _ _ _ h => h) (by kernel_rfl) (by assumption) ?_
      try simp only [pUt, pUn, sEt, sEz, sEs]
      refine take_off (i := 17) rfl (by kernel_rfl) (by kernel_rfl) (by kernel_rfl) (fun _ _ _ h => h) (by kernel_rfl) (by assumption) ?_
      try simp only [pUt, pUn, sEt, sEz, sEs]
      refine tkn (i := 18) (v := .bool true) (fun W' hSW => ?_) ?_
      ·obtain ⟨s1, b0, b1, b2⟩ := HY.out W' hSW
       first | (go_simp; done) | exact rfl | (go_simp; rfl) | (go_simp; omega)
      try simp only [pUt, pUn, sEt, sEz, sEs]
      refine wpAnyH_done (by kernel_rfl) ?_ _
      obtain ⟨w2, hw2⟩ : ∃ W, W5.drew = W := ⟨_, rfl⟩
      have hf : Fr0 none' W5 w2 := by rw [← hw2]; exact (Fr0.refl none' W5).drew
      rw [hw2]
      clear hw2 hHeld
      have HS := Lib.hid ((hf.block SB (Array.getElem?_eq_some_iff.1 HS.out).1 id).trans HS.out)
      have HZ := Lib.hid ((hf.block (SB + 1) (Array.getElem?_eq_some_iff.1 HZ.out).1 id).trans HZ.out)
      have HF := Lib.hid (HF.out.trans hf)
      clear hf
      obtain ⟨ea, eb⟩ := allV_dup (n := n) (E := E) HRa.out (by rw [Hk.out]; exact hlt) HP.out (show dupB E l i = true by rw [dup_at Hx.out]; simp [Hi1.out, hi1])
      have hv := HV.out
      have he := HE'.out
      rw [ea] at hv
      rw [eb] at he
      subst hv
      subst he
      clear ea eb
      have t0 := thaw_in HZ.out 0
      have t1 := thaw_in HZ.out 1
      have s0 := cells_in HS.out 0
      have s1 := cells_in HS.out 1
      have u0 := cells_in HZ.out 0
      have u1 := cells_in HZ.out 1
      simp at u0 u1 s0 s1
      go_wp2_with fail
      obtain ⟨W6, hW6⟩ : ∃ W, ((w2).setCell ⟨SB + 1, 0, none⟩ (.int .i64 n)).setCell ⟨SB + 1, 1, none⟩ (.slice a m cap) = W := ⟨_, rfl⟩
      have hg : SB + 1 < w.heap.size → none' (SB + 1) := fun e => by have := HSB.out; omega
      have f6 : Fr0 none' w W6 := by rw [← hW6]; exact (HF.out.setCell hg _).setCell hg _
      have hb6 : W6.heap[SB + 1]? = some (.cells #[.int .i64 n, .slice a m cap] 50 (0, 0)) := by rw [← hW6]; exact heap_set_cell (heap_set_cell HZ.out _) _
      have f7 : Fr0 (fun k => k = SB + 1) (w2) W6 := by rw [← hW6]; exact ((Fr0.refl (fun k => k = SB + 1) (w2)).setCell (fun _ => rfl) _).setCell (fun _ => rfl) _
      rw [hW6]
      clear hW6 t0 t1 u0 u1
      have r0 := cells_in hb6 0
      have r1 := cells_in hb6 1
      simp at r0 r1
      refine bodyPost_ret (v := .tuple #[.agg #[.int .i64 n, .slice a m cap], .int .i64 i, .int .i64 101]) (by simp [results, Tryz.results47, go_sem, r0, r1]) rfl ⟨_, by first | rfl | rw [rfl], ?_, f6⟩
      exact hsame.out _ f6
     ·have d1 : decide (i1 ≥ 0) = false := decide_eq_false hi1
      have d2 : decide (0 ≤ i1) = false := decide_eq_false hi1
      refine tkn (i := 7) (v := .bool false) (fun W' hSW => ?_) ?_
      ·obtain ⟨s1, b0, b1, b2⟩ := HY.out W' hSW
       first | (go_simp; done) | exact rfl | (go_simp; rfl) | (go_simp; omega)
      try simp only [pUt, pUn, sEt, sEz, sEs]
      refine tkn (i := 8) (v := .bool false) (fun W' hSW => ?_) ?_
      ·obtain ⟨s1, b0, b1, b2⟩ := HY.out W' hSW
       first | (go_simp; done) | exact rfl | (go_simp; rfl) | (go_simp; omega)
      try simp only [pUt, pUn, sEt, sEz, sEs]
      refine tkn (i := 9) (v := .slice (some ⟨g2, o, none⟩) k lc) (fun W' hSW => ?_) ?_
      ·obtain ⟨s1, b0, b1, b2⟩ := HY.out W' hSW
       first | (go_simp; done) | exact rfl | (go_simp; rfl) | (go_simp; omega)
      try simp only [pUt, pUn, sEt, sEz, sEs]
      refine tkn (i := 10) (v := .int .i64 i) (fun W' hSW => ?_) ?_
      ·obtain ⟨s1, b0, b1, b2⟩ := HY.out W' hSW
       first | (go_simp; done) | exact rfl | (go_simp; rfl) | (go_simp; omega)
      try simp only [pUt, pUn, sEt, sEz, sEs]
      refine tkn (i := 11) (v := .slice (some ⟨g2, o, none⟩) i lc) (fun W' hSW => ?_) ?_
      ·obtain ⟨s1, b0, b1, b2⟩ := HY.out W' hSW
       first | (go_simp; done) | exact rfl | (go_simp; rfl) | (go_simp; omega)
      try simp only [pUt, pUn, sEt, sEz, sEs]
      refine tkn (i := 12) (v := .pointer (some ⟨kb, 1, none⟩)) (fun W' hSW => ?_) ?_
      ·obtain ⟨s1, b0, b1, b2⟩ := HY.out W' hSW
       first | (go_simp; done) | exact rfl | (go_simp; rfl) | (go_simp; omega)
      try simp only [pUt, pUn, sEt, sEz, sEs]
      refine tkn (i := 13) (v := .int .i64 x.key.source) (fun W' hSW => ?_) ?_
      ·obtain ⟨s1, b0, b1, b2⟩ := HY.out W' hSW
       first | (go_simp; done) | exact rfl | (go_simp; rfl) | (go_simp; omega)
      try simp only [pUt, pUn, sEt, sEz, sEs]
      refine tkn (i := 14) (v := .pointer (some ⟨kb, 2, none⟩)) (fun W' hSW => ?_) ?_
      ·obtain ⟨s1, b0, b1, b2⟩ := HY.out W' hSW
       first | (go_simp; done) | exact rfl | (go_simp; rfl) | (go_simp; omega)
      try simp only [pUt, pUn, sEt, sEz, sEs]
      refine tkn (i := 15) (v := .int .i64 x.key.seq) (fun W' hSW => ?_) ?_
      ·obtain ⟨s1, b0, b1, b2⟩ := HY.out W' hSW
       first | (go_simp; done) | exact rfl | (go_simp; rfl) | (go_simp; omega)
      try simp only [pUt, pUn, sEt, sEz, sEs]
      refine take_call (i := 16) rfl (by kernel_rfl) (by kernel_rfl) (fun K hK => ?_)
      go_simp
      refine (HE2.out _ HF.out.drew).mono ?_
      rintro e w5 ⟨rfl, rfl⟩
      obtain ⟨i2, hi2⟩ : ∃ i2, atE (x.key.source, x.key.seq) (l.take i) = i2 := ⟨_, rfl⟩
      rw [hi2]
      have Hi2 := Lib.hid (show atE x.name (l.take i) = i2 from hi2)
      clear hi2
      go_wp2_with fail
      refine hK.out _ _ hHeld (fun hS => ?_)
      clear hK K hS
      try simp only [pUt, pUn, sEt, sEz, sEs]
      by_cases hi2 : 0 ≤ i2
      ·have d3 : decide (i2 ≥ 0) = true := decide_eq_true hi2
       have d4 : decide (0 ≤ i2) = true := decide_eq_true hi2
       refine tkn (i := 17) (v := .bool true) (fun W' hSW => ?_) ?_
       ·obtain ⟨s1, b0, b1, b2⟩ := HY.out W' hSW
        first | (go_simp; done) | exact rfl | (go_simp; rfl) | (go_simp; omega)
       try simp only [pUt, pUn, sEt, sEz, sEs]
       refine tkn (i := 18) (v := .bool true) (fun W' hSW => ?_) ?_
       ·obtain ⟨s1, b0, b1, b2⟩ := HY.out W' hSW
        first | (go_simp; done) | exact rfl | (go_simp; rfl) | (go_simp; omega)
       try simp only [pUt, pUn, sEt, sEz, sEs]
       refine wpAnyH_done (by kernel_rfl) ?_ _
       clear d1 d2 d3 d4
       obtain ⟨w2, hw2⟩ : ∃ W, W5.drew = W := ⟨_, rfl⟩
       have hf : Fr0 none' W5 w2 := by rw [← hw2]; exact (Fr0.refl none' W5).drew
       rw [hw2]
       clear hw2 hHeld
       have HS := Lib.hid ((hf.block SB (Array.getElem?_eq_some_iff.1 HS.out).1 id).trans HS.out)
       have HZ := Lib.hid ((hf.block (SB + 1) (Array.getElem?_eq_some_iff.1 HZ.out).1 id).trans HZ.out)
       have HF := Lib.hid (HF.out.trans hf)
       clear hf
       obtain ⟨ea, eb⟩ := allV_dup (n := n) (E := E) HRa.out (by rw [Hk.out]; exact hlt) HP.out (show dupB E l i = true by rw [dup_at Hx.out]; simp [Hi2.out, hi2])
       have hv := HV.out
       have he := HE'.out
       rw [ea] at hv
       rw [eb] at he
       subst hv
       subst he
       clear ea eb
       have t0 := thaw_in HZ.out 0
       have t1 := thaw_in HZ.out 1
       have s0 := cells_in HS.out 0
       have s1 := cells_in HS.out 1
       have u0 := cells_in HZ.out 0
       have u1 := cells_in HZ.out 1
       simp at u0 u1 s0 s1
       go_wp2_with fail
       obtain ⟨W6, hW6⟩ : ∃ W, ((w2).setCell ⟨SB + 1, 0, none⟩ (.int .i64 n)).setCell ⟨SB + 1, 1, none⟩ (.slice a m cap) = W := ⟨_, rfl⟩
       have hg : SB + 1 < w.heap.size → none' (SB + 1) := fun e => by have := HSB.out; omega
       have f6 : Fr0 none' w W6 := by rw [← hW6]; exact (HF.out.setCell hg _).setCell hg _
       have hb6 : W6.heap[SB + 1]? = some (.cells #[.int .i64 n, .slice a m cap] 50 (0, 0)) := by rw [← hW6]; exact heap_set_cell (heap_set_cell HZ.out _) _
       have f7 : Fr0 (fun k => k = SB + 1) (w2) W6 := by rw [← hW6]; exact ((Fr0.refl (fun k => k = SB + 1) (w2)).setCell (fun _ => rfl) _).setCell (fun _ => rfl) _
       rw [hW6]
       clear hW6 t0 t1 u0 u1
       have r0 := cells_in hb6 0
       have r1 := cells_in hb6 1
       simp at r0 r1
       refine bodyPost_ret (v := .tuple #[.agg #[.int .i64 n, .slice a m cap], .int .i64 i, .int .i64 101]) (by simp [results, Tryz.results47, go_sem, r0, r1]) rfl ⟨_, by first | rfl | rw [rfl], ?_, f6⟩
       exact hsame.out _ f6
      ·have d3 : decide (i2 ≥ 0) = false := decide_eq_false hi2
       have d4 : decide (0 ≤ i2) = false := decide_eq_false hi2
       refine tkn (i := 17) (v := .bool false) (fun W' hSW => ?_) ?_
       ·obtain ⟨s1, b0, b1, b2⟩ := HY.out W' hSW
        first | (go_simp; done) | exact rfl | (go_simp; rfl) | (go_simp; omega)
       try simp only [pUt, pUn, sEt, sEz, sEs]
       refine tkn (i := 18) (v := .bool false) (fun W' hSW => ?_) ?_
       ·obtain ⟨s1, b0, b1, b2⟩ := HY.out W' hSW
        first | (go_simp; done) | exact rfl | (go_simp; rfl) | (go_simp; omega)
       try simp only [pUt, pUn, sEt, sEz, sEs]
       refine wpAnyH_done (by kernel_rfl) ?_ _
       clear d1 d2 d3 d4
       obtain ⟨w2, hw2⟩ : ∃ W, W5.drew = W := ⟨_, rfl⟩
       have hf : Fr0 none' W5 w2 := by rw [← hw2]; exact (Fr0.refl none' W5).drew
       rw [hw2]
       clear hw2 hHeld
       have HS := Lib.hid ((hf.block SB (Array.getElem?_eq_some_iff.1 HS.out).1 id).trans HS.out)
       have HZ := Lib.hid ((hf.block (SB + 1) (Array.getElem?_eq_some_iff.1 HZ.out).1 id).trans HZ.out)
       have HF := Lib.hid (HF.out.trans hf)
       clear hf
       have HP1 := Lib.hid (show ∀ t, t < i + 1 → dupB E l t = false from fun t ht => by
        rcases Nat.lt_or_ge t i with h | h
        ·exact HP.out t h
        ·have : t = i := by omega
         subst this
         rw [dup_at Hx.out, Hi1.out, Hi2.out, decide_eq_false (by omega), decide_eq_false (by omega)]
         rfl)
       clear hi1 hi2
       go_wp2_with fail
       go_roundw
       case rel => exact ⟨i + 1, by omega, by go_num, HP1, HS, HZ, HF⟩
       case measure => simp [Go.RowKit.intOf]; omega
    ·have hdd : ∀ t, t < l.length → dupB E l t = false := fun t ht => HP.out t (by rw [Hk.out] at ht; omega)
     have HD := Lib.hid hdd
     have hlm := Hl.out
     have hlk := Hk.out
     have wsum : IntKind.i64.wrap ((m : Int) + (k : Int)) = ((m + k : Nat) : Int) := by rw [IntWalk.i64_in _ (by omega)]; omega
     by_cases hfull : n < m + k
     ·have d1 : decide (((m + k : Nat) : Int) > (n : Int)) = true := decide_eq_true (by omega)
      have d2 : decide ((n : Int) < ((m + k : Nat) : Int)) = true := decide_eq_true (by omega)
      have d3 : decide (n < m + k) = true := decide_eq_true hfull
      obtain ⟨ea, eb⟩ := allV_full (n := n) (E := E) (l := l) HRa.out HD.out (by omega)
      have hv := HV.out
      have he := HE'.out
      rw [ea] at hv
      rw [eb] at he
      subst hv
      subst he
      clear ea eb hdd hlm hlk
      have t0 := thaw_in HZ.out 0
      have t1 := thaw_in HZ.out 1
      have s0 := cells_in HS.out 0
      have s1 := cells_in HS.out 1
      have u0 := cells_in HZ.out 0
      have u1 := cells_in HZ.out 1
      simp at u0 u1 s0 s1
      go_wp2_with fail
      clear s0 s1 d1 d2 d3 wsum hfull
      obtain ⟨W6, hW6⟩ : ∃ W, ((wr).setCell ⟨SB + 1, 0, none⟩ (.int .i64 n)).setCell ⟨SB + 1, 1, none⟩ (.slice a m cap) = W := ⟨_, rfl⟩
      have hg : SB + 1 < w.heap.size → none' (SB + 1) := fun e => by have := HSB.out; omega
      have f6 : Fr0 none' w W6 := by rw [← hW6]; exact (HF.out.setCell hg _).setCell hg _
      have hb6 : W6.heap[SB + 1]? = some (.cells #[.int .i64 n, .slice a m cap] 50 (0, 0)) := by rw [← hW6]; exact heap_set_cell (heap_set_cell HZ.out _) _
      have f7 : Fr0 (fun k => k = SB + 1) (wr) W6 := by rw [← hW6]; exact ((Fr0.refl (fun k => k = SB + 1) (wr)).setCell (fun _ => rfl) _).setCell (fun _ => rfl) _
      rw [hW6]
      clear hW6 t0 t1 u0 u1
      have r0 := cells_in hb6 0
      have r1 := cells_in hb6 1
      simp at r0 r1
      refine bodyPost_ret (v := .tuple #[.agg #[.int .i64 n, .slice a m cap], .int .i64 (-1), .int .i64 4]) (by simp [results, Tryz.results47, go_sem, r0, r1]) rfl ⟨_, by first | rfl | rw [rfl], ?_, f6⟩
      exact hsame.out _ f6
     ·have d1 : decide (((m + k : Nat) : Int) > (n : Int)) = false := decide_eq_false (by omega)
      have d2 : decide ((n : Int) < ((m + k : Nat) : Int)) = false := decide_eq_false (by omega)
      have d3 : decide (n < m + k) = false := decide_eq_false hfull
      obtain ⟨ea, eb⟩ := allV_ok (n := n) (E := E) (l := l) HRa.out HD.out (by omega)
      have hv := HV.out
      have he := HE'.out
      rw [ea] at hv
      rw [eb] at he
      subst hv
      subst he
      have HO := Lib.hid (dup_once HOe.out HD.out)
      have hmk : m + k ≤ n := by omega
      have Hmk := Lib.hid hmk
      clear ea eb hdd hlm hlk hmk
      have t0 := thaw_in HZ.out 0
      have t1 := thaw_in HZ.out 1
      have s0 := cells_in HS.out 0
      have s1 := cells_in HS.out 1
      have u0 := cells_in HZ.out 0
      have u1 := cells_in HZ.out 1
      simp at u0 u1 s0 s1
      go_wp2_with fail
      clear s0 s1 u0 u1 t0 t1 d1 d2 d3 wsum hfull
      go_loopw [10] (fun v10 wr => ∃ j : Nat, j ≤ k ∧ v10 = .int .i64 j ∧ Hid (∃ a' cap', wr.heap[SB]? = some (.cells #[.int .i64 n, .slice a' (putsE (l.take j) E).length cap'] 50 (0, 0)) ∧ RAt wr a (SB + 2) n (putsE (l.take j) E) (.agg #[.int .i64 n, .slice a' (putsE (l.take j) E).length cap'])) ∧ Hid (wr.heap[SB + 1]? = some (.cells #[.int .i64 0, .slice none 0 0] 50 (0, 0))) ∧ Hid (Fr0 none' w wr)) (fun v10 _ => k - (Go.RowKit.intOf v10).toNat)
      case atStart => exact ⟨0, Nat.zero_le _, rfl, ⟨a, cap, by rw [List.take_zero, show putsE [] E = E from rfl, Hl.out]; exact HS.out, by rw [List.take_zero, show putsE [] E = E from rfl, Hl.out]; exact hsame2.out _ HF.out⟩, HZ, HF⟩
      case round =>
       clear hlt hi HP
       obtain ⟨j, hj, rfl, HA, HZ, HF⟩ := hrel
       obtain ⟨a', cap', hS, hA⟩ := HA.out
       obtain ⟨b', cb', hv, hcb, hAE, hAB⟩ := hA
       injection hv with hv
       simp at hv
       obtain ⟨rfl, rfl⟩ := hv
       have hjl : (putsE (l.take j) E).length = m + j := by rw [putsE_length, List.length_take, Hl.out, Hk.out]; omega
       rw [hjl] at hS hcb
       have HS := Lib.hid hS
       have HAE := Lib.hid hAE
       have HAB := Lib.hid hAB
       have Hjl := Lib.hid hjl
       have hmk := Hmk.out
       by_cases hlt : j < k
       ·obtain ⟨x, hx⟩ : ∃ x, l[j]? = some x := ⟨_, List.getElem?_eq_getElem (by rw [Hk.out]; exact hlt)⟩
        obtain ⟨g2, o, rfl, hxc⟩ := HLl.out j x hx
        have HX := Lib.hid (hxc.later HF.out)
        have HXx := Lib.hid (fun (W' : World) (hf : Fr0 (fun k => k = SB) wr W') => HX.out.fr0 hf (fun e => by
         have h7 := World.block_lt_of_cell? _ _ hxc.1
         simp only at h7
         have := HSB.out
         omega))
        have k1 : (0 : Int) ≤ (j : Int) := by omega
        have k2 : (j : Int) < (k : Int) := by omega
        have HPt := Lib.hid (fun (W : World) (hf : Fr0 none' wr W) => rPut_any (n := n) (putsE (l.take j) E) (HAE.out.later hf) Hjl.out (by omega) hcb (by omega) hn' x)
        obtain ⟨e1, e2⟩ := puts_step (n := n) HO.out HRa.out hx (by rw [Hl.out, Hk.out]; exact hmk)
        rw [e1, e2] at HPt
        unfold evV at HPt
        clear hx hxc hS hAE hAB hjl e1 e2
        go_wp2_with fail
        have s0 := cells_in HS.out 0
        have s1 := cells_in HS.out 1
        simp at s0 s1
        refine wp_region_held_drew (S := fun W' => Fr0 (fun k => k = SB) wr W') (by kernel_rfl) ((Fr0.refl _ wr).drew) (fun hHeld => ?_)
        refine tkn (i := 1) (v := .slice (some ⟨g2, o, none⟩) k lc) (fun W' hSW => ?_) ?_
        ·obtain ⟨b0, b1, b2, b3, b4⟩ := HXx.out W' hSW
         first | (go_simp; done) | exact rfl | (go_simp; rfl) | (go_simp; omega)
        try simp only [pUt, pUn, sEt, sEz, sEs]
        refine tkn (i := 2) (v := .int .i64 j) (fun W' hSW => ?_) ?_
        ·obtain ⟨b0, b1, b2, b3, b4⟩ := HXx.out W' hSW
         first | (go_simp; done) | exact rfl | (go_simp; rfl) | (go_simp; omega)
        try simp only [pUt, pUn, sEt, sEz, sEs]
        refine tkn (i := 3) (v := .pointer (some ⟨g2, o + j * 5, none⟩)) (fun W' hSW => ?_) ?_
        ·obtain ⟨b0, b1, b2, b3, b4⟩ := HXx.out W' hSW
         first | (go_simp; done) | exact rfl | (go_simp; rfl) | (go_simp; omega)
        try simp only [pUt, pUn, sEt, sEz, sEs]
        refine tkn (i := 4) (v := .agg #[.int .i64 x.key.time, .int .i64 x.key.source, .int .i64 x.key.seq, .int .i64 x.to, .int .i64 x.value]) (fun W' hSW => ?_) ?_
        ·obtain ⟨b0, b1, b2, b3, b4⟩ := HXx.out W' hSW
         first | (go_simp; done) | exact rfl | (go_simp; rfl) | (go_simp; omega)
        try simp only [pUt, pUn, sEt, sEz, sEs]
        refine take_call (i := 0) rfl (by kernel_rfl) (by kernel_rfl) (fun K hK => ?_)
        go_simp
        refine hK.out _ _ hHeld (fun hS => ?_)
        clear hK K hS s0 s1
        try simp only [pUt, pUn, sEt, sEz, sEs]
        refine take_call (i := 5) rfl (by kernel_rfl) (by kernel_rfl) (fun K hK => ?_)
        go_simp
        refine (HPt.out _ ((Fr0.refl none' wr).drew)).mono ?_
        rintro e w5 ⟨v, rfl, hA5, hf⟩
        obtain ⟨b5, cb5, rfl, hcb5, hAE5, hAB5⟩ := hA5
        have hf5 : Fr0 none' wr w5 := ((Fr0.refl none' wr).drew).trans hf
        have HA5 := Lib.hid (show RAt w5 a (SB + 2) n (putsE (l.take (j + 1)) E) (.agg #[.int .i64 n, .slice b5 (putsE (l.take (j + 1)) E).length cb5]) from RAt.base (w1 := wr) ⟨b5, cb5, rfl, hcb5, hAE5, hAB5⟩ HAB.out (by have := (Array.getElem?_eq_some_iff.1 HZ.out).1; have h9 : wr.drew.heap.size = wr.heap.size := rfl; omega) hf5.size)
        clear hcb5 hAE5 hAB5 hf HPt
        go_wp2_with fail
        refine hK.out _ _ (hf5.mono (fun _ _ h => h.elim)) (fun hS => ?_)
        clear hK K hHeld
        try simp only [pUt, pUn, sEt, sEz, sEs]
        obtain ⟨n5, hn5⟩ : ∃ n5, (putsE (l.take (j + 1)) E).length = n5 := ⟨_, rfl⟩
        rw [hn5] at HA5 ⊢
        have Hn5 := Lib.hid hn5
        clear hn5
        refine tkn (i := 6) (v := .tuple #[.agg #[.int .i64 n, .slice b5 n5 cb5], .int .i64 0]) (fun W' hSW => ?_) ?_
        ·obtain ⟨b0, b1, b2, b3, b4⟩ := HXx.out W' hSW
         first | (go_simp; done) | exact rfl | (go_simp; rfl) | (go_simp; omega)
        try simp only [pUt, pUn, sEt, sEz, sEs]
        refine tkn (i := 7) (v := .agg #[.int .i64 n, .slice b5 n5 cb5]) (fun W' hSW => ?_) ?_
        ·obtain ⟨b0, b1, b2, b3, b4⟩ := HXx.out W' hSW
         first | (go_simp; done) | exact rfl | (go_simp; rfl) | (go_simp; omega)
        try simp only [pUt, pUn, sEt, sEz, sEs]
        refine tkn (i := 8) (v := .int .i64 0) (fun W' hSW => ?_) ?_
        ·obtain ⟨b0, b1, b2, b3, b4⟩ := HXx.out W' hSW
         first | (go_simp; done) | exact rfl | (go_simp; rfl) | (go_simp; omega)
        try simp only [pUt, pUn, sEt, sEz, sEs]
        have HS5 := Lib.hid ((hf5.block SB (Array.getElem?_eq_some_iff.1 HS.out).1 id).trans HS.out)
        have HZ5 := Lib.hid ((hf5.block (SB + 1) (Array.getElem?_eq_some_iff.1 HZ.out).1 id).trans HZ.out)
        have HF5 := Lib.hid (HF.out.trans hf5)
        have t0 := thaw_in HS5.out 0
        have t1 := thaw_in HS5.out 1
        have u0 := cells_in HS5.out 0
        have u1 := cells_in HS5.out 1
        simp at u0 u1
        refine take_call (i := 9) rfl (by kernel_rfl) (by kernel_rfl) (fun K hK => ?_)
        go_simp
        obtain ⟨W6, hW6⟩ : ∃ W, (w5.setCell ⟨SB, 0, none⟩ (.int .i64 n)).setCell ⟨SB, 1, none⟩ (.slice b5 n5 cb5) = W := ⟨_, rfl⟩
        have f56 : Fr0 (fun k => k = SB) w5 W6 := by rw [← hW6]; exact ((Fr0.refl (fun k => k = SB) w5).setCell (fun _ => rfl) _).setCell (fun _ => rfl) _
        have hb6 : W6.heap[SB]? = some (.cells #[.int .i64 n, .slice b5 n5 cb5] 50 (0, 0)) := by rw [← hW6]; exact heap_set_cell (heap_set_cell HS5.out _) _
        rw [hW6]
        refine hK.out _ _ ((hf5.mono (fun _ _ h => h.elim)).trans f56) (fun hS => ?_)
        clear hK K hW6 t0 t1 u0 u1 hS
        try simp only [pUt, pUn, sEt, sEz, sEs]
        refine wpAnyH_done (by kernel_rfl) ?_ _
        have HZ6 := Lib.hid ((f56.block (SB + 1) (Array.getElem?_eq_some_iff.1 HZ5.out).1 (fun e => by omega)).trans HZ5.out)
        have HF6 := Lib.hid (HF5.out.trans' f56 (fun i hi e => by have := HSB.out; omega))
        have HB6 := Lib.hid hb6
        have HA6 := Lib.hid (show RAt W6 a (SB + 2) n (putsE (l.take (j + 1)) E) (.agg #[.int .i64 n, .slice b5 n5 cb5]) from by
         obtain ⟨b7, c7, h1, h2, h3, h4⟩ := HA5.out
         refine ⟨b7, c7, h1, h2, h3.fr0 f56 (fun g o s e he => ?_), fun g o s e => (h4 g o s e).imp id (fun h => ⟨h.1, Nat.lt_of_lt_of_le h.2 f56.size⟩)⟩
         rcases h4 g o s e with ⟨o', s', e'⟩ | h5
         ·have := Hal.out g o' s' e'
          have := HSB.out
          omega
         ·omega)
        clear hb6 f56 hf5
        go_wp2_with fail
        go_roundw
        case rel => exact ⟨j + 1, by omega, by go_num, ⟨b5, cb5, by rw [Hn5.out]; exact HB6.out, by rw [Hn5.out]; exact HA6.out⟩, HZ6, HF6⟩
        case measure => simp [Go.RowKit.intOf]; omega
       ·have hjk : l.take j = l := List.take_of_length_le (by rw [Hk.out]; omega)
        have hAE := HAE.out
        rw [hjk] at hAE
        have hjl := Hjl.out
        rw [hjk] at hjl
        have HAF := Lib.hid hAE
        have Hjf := Lib.hid hjl
        have hcb2 : m + j ≤ cap' := hcb
        clear hjk hAE hjl hmk
        have t0 := thaw_in HZ.out 0
        have t1 := thaw_in HZ.out 1
        have s0 := cells_in HS.out 0
        have s1 := cells_in HS.out 1
        have u0 := cells_in HZ.out 0
        have u1 := cells_in HZ.out 1
        simp at u0 u1 s0 s1
        go_wp2_with fail
        clear s0 s1
        obtain ⟨W6, hW6⟩ : ∃ W, ((wr).setCell ⟨SB + 1, 0, none⟩ (.int .i64 n)).setCell ⟨SB + 1, 1, none⟩ (.slice a' (m + j) cap') = W := ⟨_, rfl⟩
        have hg : SB + 1 < w.heap.size → none' (SB + 1) := fun e => by have := HSB.out; omega
        have f6 : Fr0 none' w W6 := by rw [← hW6]; exact (HF.out.setCell hg _).setCell hg _
        have hb6 : W6.heap[SB + 1]? = some (.cells #[.int .i64 n, .slice a' (m + j) cap'] 50 (0, 0)) := by rw [← hW6]; exact heap_set_cell (heap_set_cell HZ.out _) _
        have f7 : Fr0 (fun k => k = SB + 1) (wr) W6 := by rw [← hW6]; exact ((Fr0.refl (fun k => k = SB + 1) (wr)).setCell (fun _ => rfl) _).setCell (fun _ => rfl) _
        rw [hW6]
        clear hW6 t0 t1 u0 u1
        have r0 := cells_in hb6 0
        have r1 := cells_in hb6 1
        simp at r0 r1
        refine bodyPost_ret (v := .tuple #[.agg #[.int .i64 n, .slice a' (m + j) cap'], .int .i64 (-1), .int .i64 0]) (by simp [results, Tryz.results47, go_sem, r0, r1]) rfl ⟨_, by first | rfl | rw [rfl], ?_, f6⟩
        refine ⟨a', cap', by rw [Hjf.out], by rw [Hjf.out]; exact hcb2, HAF.out.fr0 f7 (fun g o s e he => ?_), fun g o s e => (HAB.out g o s e).imp id (fun h => ⟨by have := HSB.out; omega, Nat.lt_of_lt_of_le h.2 f7.size⟩)⟩
        rcases HAB.out g o s e with ⟨o', s', e'⟩ | h5
        ·have := Hal.out g o' s' e'
         have := HSB.out
         omega
        ·omega
end Go.Proofs.YtmcgipilopfgoaaGreat

/-
  EvqTells: an act with a queue and with its reference: putting one event.
-/
namespace Go.Proofs.YtmcgipilopfgoaaGreat
open Go Go.RowKit Go.ChangeMaps
attribute [local go_sem ↓] Go.wp_at_zero Go.wp_at_succ
attribute [local go_sem] Oper.semAt_some wide_fn wide_depth wide_fnR wide_depthR
attribute [local go_sem high] run_eql_ev run_neq_ev

/-- What an act leaves. -/
def DoPost (n T : Nat) (w : World) (ft : Nat → Prop) (ra : Option Addr) (e : Ending) (w' : World) : Prop := ∃ qb' T' E' ft' ra' rc', e = .returned (.tuple #[.pointer (some ⟨qb', 0, none⟩), .agg #[.int .i64 n, .slice ra' (List.length E') rc'], .bool true]) ∧ QIs w' qb' n T' E' ft' ∧ T' ≤ T + 300 ∧ (∀ k, ft' k → ft k ∨ w.heap.size ≤ k) ∧ RsK w' n E' ra' rc' ft' ∧ Fr0 ft w w' ∧ ∀ g o s, ra' = some ⟨g, o, s⟩ → (∃ o' s', ra = some ⟨g, o', s'⟩) ∨ w.heap.size ≤ g
/-- An act. -/
def actV (kd : Int) (x : Ev) (la : Option Addr) (lk lc : Nat) (t : Int) : Value := .agg #[.int .u8 kd, .int .i64 x.key.time, .int .i64 x.key.source, .int .i64 x.key.seq, .int .i64 x.to, .int .i64 x.value, .slice la lk lc, .int .i64 t]
set_option maxRecDepth 100000 in
set_option maxHeartbeats 4000000 in
theorem do_0 {w : World} {qb n T m rc lk lc : Nat} {E : List Ev} {ft : Nat → Prop} {ra la : Option Addr} {kd t : Int} {x : Ev} (h : QIs w qb n T E ft) (hT : T ≤ 1000000) (hr : RsK w n E ra rc ft) (hm : E.length = m) (hkd : 0 ≤ kd ∧ kd < 256)
  (hk : kd % 10 = 0) :
  Calls Tryz.prog 20 #[.pointer (some ⟨qb, 0, none⟩), .agg #[.int .i64 n, .slice ra m rc], actV kd x la lk lc t] w (DoPost n T w ft ra) := by
 have H := Lib.hid h
 have HR := Lib.hid hr
 have Hm := Lib.hid hm
 have hle := h.le
 have hm256 : m ≤ 256 := by omega
 unfold actV
 clear h hr hle hm
 go_enter Tryz.func20, Tryz.ntmps20
 go_wp2_with fail
 have hkt : kd.tmod 10 = 0 := by rw [Int.tmod_eq_emod_of_nonneg hkd.1]; exact hk
 clear hk
 obtain ⟨SB, hSB⟩ : ∃ B, w.heap.size = B := ⟨_, rfl⟩
 obtain ⟨W1, hW1⟩ : ∃ W, w.alloc (.cells #[.int .i64 n, .slice ra m rc] 50) = W := ⟨_, rfl⟩
 have hs1 : W1.heap[SB]? = some (.cells #[.int .i64 n, .slice ra m rc] 50 (0, 0)) := by rw [← hW1, ← hSB]; exact World.alloc_heap_new w _
 have f1 : Fr0 none' w W1 := by rw [← hW1]; exact (Fr0.refl _ _).alloc _
 have z1 : W1.heap.size = SB + 1 := by rw [← hW1, World.size_alloc, hSB]
 rw [hW1]
 try rw [hSB]
 obtain ⟨W2, hW2⟩ : ∃ W, W1.alloc (.cells #[.int .u8 kd, .int .i64 x.key.time, .int .i64 x.key.source, .int .i64 x.key.seq, .int .i64 x.to, .int .i64 x.value, .slice la lk lc, .int .i64 t] 32) = W := ⟨_, rfl⟩
 have f2 : Fr0 none' W1 W2 := by rw [← hW2]; exact (Fr0.refl _ _).alloc _
 have hx2 : W2.heap[SB + 1]? = some (.cells #[.int .u8 kd, .int .i64 x.key.time, .int .i64 x.key.source, .int .i64 x.key.seq, .int .i64 x.to, .int .i64 x.value, .slice la lk lc, .int .i64 t] 32 (0, 0)) := by rw [← hW2, ← z1]; exact World.alloc_heap_new W1 _
 have z2 : W2.heap.size = SB + 1 + 1 := by rw [← hW2, World.size_alloc, z1]
 rw [hW2]
 obtain ⟨W3, hW3⟩ : ∃ W, W2.alloc (.cells #[.int .i64 0, .slice none 0 0] 50) = W := ⟨_, rfl⟩
 have f3 : Fr0 none' W2 W3 := by rw [← hW3]; exact (Fr0.refl _ _).alloc _
 have HRB := Lib.hid (show W3.heap[SB + 1 + 1]? = some (.cells #[.int .i64 0, .slice none 0 0] 50 (0, 0)) by rw [← hW3, ← z2]; exact World.alloc_heap_new W2 _)
 have HA := Lib.hid ((f3.block (SB + 1) (Array.getElem?_eq_some_iff.1 hx2).1 id).trans hx2)
 have HS := Lib.hid (((f2.trans f3).block SB (Array.getElem?_eq_some_iff.1 hs1).1 id).trans hs1)
 have HF := Lib.hid ((f1.trans f2).trans f3)
 have HSB := Lib.hid hSB
 have z3 : W3.heap.size = SB + 1 + 1 + 1 := by rw [← hW3, World.size_alloc, z2]
 have Hz3 := Lib.hid z3
 rw [hW3]
 clear hW1 hSB hs1 f1 hW2 f2 f3 hW3 z1 z2 hx2 z3
 have HZ := Lib.hid (fun (W' : World) (hf : Fr0 none' W3 W') => (show W'.cell? ⟨SB + 1, 0, none⟩ = some (.int .u8 kd) ∧ W'.cell? ⟨SB + 1, 1, none⟩ = some (.int .i64 x.key.time) ∧ W'.cell? ⟨SB + 1, 2, none⟩ = some (.int .i64 x.key.source) ∧ W'.cell? ⟨SB + 1, 3, none⟩ = some (.int .i64 x.key.seq) ∧ W'.cell? ⟨SB + 1, 4, none⟩ = some (.int .i64 x.to) ∧ W'.cell? ⟨SB + 1, 5, none⟩ = some (.int .i64 x.value) ∧ W'.cell? ⟨SB + 1, 6, none⟩ = some (.slice la lk lc) ∧ W'.cell? ⟨SB + 1, 7, none⟩ = some (.int .i64 t) from by
  have h1 := (hf.block (SB + 1) (Array.getElem?_eq_some_iff.1 HA.out).1 id).trans HA.out
  refine ⟨?_, ?_, ?_, ?_, ?_, ?_, ?_, ?_⟩ <;> (rw [cells_in h1]; rfl)))
 refine wp_region_held_drew (S := fun W' => Fr0 none' W3 W') (by kernel_rfl) ((Fr0.refl _ W3).drew) (fun hHeld => ?_)
 refine tkn (i := 0) (v := .pointer (some ⟨SB + 1, 0, none⟩)) (fun W' hSW => ?_) ?_
 ·obtain ⟨a0, a1, a2, a3, a4, a5, a6, a7⟩ := HZ.out W' hSW
  first | (go_simp; done) | exact rfl | (go_simp; rfl) | (go_simp; omega)
 try simp only [pUt, pUn, sEt, sEz, sEs]
 refine tkn (i := 1) (v := .int .u8 kd) (fun W' hSW => ?_) ?_
 ·obtain ⟨a0, a1, a2, a3, a4, a5, a6, a7⟩ := HZ.out W' hSW
  first | (go_simp; done) | exact rfl | (go_simp; rfl) | (go_simp; omega)
 try simp only [pUt, pUn, sEt, sEz, sEs]
 refine tkn (i := 2) (v := .int .u8 0) (fun W' hSW => ?_) ?_
 ·obtain ⟨a0, a1, a2, a3, a4, a5, a6, a7⟩ := HZ.out W' hSW
  first | (go_simp; done) | exact rfl | (go_simp; rfl) | (go_simp; omega)
 try simp only [pUt, pUn, sEt, sEz, sEs]
 refine tkn (i := 3) (v := .pointer (some ⟨SB + 1, 1, none⟩)) (fun W' hSW => ?_) ?_
 ·obtain ⟨a0, a1, a2, a3, a4, a5, a6, a7⟩ := HZ.out W' hSW
  first | (go_simp; done) | exact rfl | (go_simp; rfl) | (go_simp; omega)
 try simp only [pUt, pUn, sEt, sEz, sEs]
 refine tkn (i := 4) (v := .pointer (some ⟨SB + 1, 1, none⟩)) (fun W' hSW => ?_) ?_
 ·obtain ⟨a0, a1, a2, a3, a4, a5, a6, a7⟩ := HZ.out W' hSW
  first | (go_simp; done) | exact rfl | (go_simp; rfl) | (go_simp; omega)
 try simp only [pUt, pUn, sEt, sEz, sEs]
 refine tkn (i := 5) (v := .agg #[.int .i64 x.key.time, .int .i64 x.key.source, .int .i64 x.key.seq]) (fun W' hSW => ?_) ?_
 ·obtain ⟨a0, a1, a2, a3, a4, a5, a6, a7⟩ := HZ.out W' hSW
  first | (go_simp; done) | exact rfl | (go_simp; rfl) | (go_simp; omega)
 try simp only [pUt, pUn, sEt, sEz, sEs]
 refine take_call (i := 6) rfl (by kernel_rfl) (by kernel_rfl) (fun K hK => ?_)
 go_simp
 rw [Hz3.out]
 obtain ⟨V1, hV1⟩ : ∃ W, W3.alloc (.cells #[.int .i64 0, .int .i64 0, .int .i64 0] 26) = W := ⟨_, rfl⟩
 have fV : Fr0 none' W3 V1 := by rw [← hV1]; exact (Fr0.refl _ _).alloc _
 have hk1 : V1.heap[SB + 1 + 1 + 1]? = some (.cells #[.int .i64 0, .int .i64 0, .int .i64 0] 26 (0, 0)) := by rw [← hV1, ← Hz3.out]; exact World.alloc_heap_new W3 _
 rw [hV1]
 refine hK.out _ _ fV.drew (fun hS => ?_)
 clear hK K hV1 hHeld
 try simp only [pUt, pUn, sEt, sEz, sEs]
 refine tkn (i := 7) (v := .int .u8 0) (fun W' hSW => ?_) ?_
 ·obtain ⟨a0, a1, a2, a3, a4, a5, a6, a7⟩ := HZ.out W' hSW
  first | (go_simp; done) | exact rfl | (go_simp; rfl) | (go_simp; omega)
 try simp only [pUt, pUn, sEt, sEz, sEs]
 refine take_call (i := 8) rfl (by kernel_rfl) (by kernel_rfl) (fun K hK => ?_)
 have t0 := thaw_in hk1 0
 have t1 := thaw_in hk1 1
 have t2 := thaw_in hk1 2
 have u0 := cells_in hk1 0
 have u1 := cells_in hk1 1
 have u2 := cells_in hk1 2
 simp at u0 u1 u2
 go_simp
 obtain ⟨V2, hV2⟩ : ∃ W, ((V1.setCell ⟨SB + 1 + 1 + 1, 0, none⟩ (.int .i64 x.key.time)).setCell ⟨SB + 1 + 1 + 1, 1, none⟩ (.int .i64 x.key.source)).setCell ⟨SB + 1 + 1 + 1, 2, none⟩ (.int .i64 x.key.seq) = W := ⟨_, rfl⟩
 have hg3 : SB + 1 + 1 + 1 < W3.heap.size → none' (SB + 1 + 1 + 1) := fun e => by have := Hz3.out; omega
 have fV2 : Fr0 none' W3 V2 := by rw [← hV2]; exact ((fV.setCell hg3 _).setCell hg3 _).setCell hg3 _
 have hk2 : V2.heap[SB + 1 + 1 + 1]? = some (.cells #[.int .i64 x.key.time, .int .i64 x.key.source, .int .i64 x.key.seq] 26 (0, 0)) := by rw [← hV2]; exact heap_set_cell (heap_set_cell (heap_set_cell hk1 _) _) _
 rw [hV2]
 refine hK.out _ _ fV2.drew (fun hS => ?_)
 clear hK K hV2 t0 t1 t2 u0 u1 u2 hg3 fV hk1
 try simp only [pUt, pUn, sEt, sEz, sEs]
 refine wpAnyH_done (by kernel_rfl) ?_ _
 obtain ⟨V, hV⟩ : ∃ W, V2.drew = W := ⟨_, rfl⟩
 have fV : Fr0 none' W3 V := by rw [← hV]; exact fV2.drew
 have HK := Lib.hid (show V.heap[SB + 1 + 1 + 1]? = some (.cells #[.int .i64 x.key.time, .int .i64 x.key.source, .int .i64 x.key.seq] 26 (0, 0)) by rw [← hV]; exact hk2)
 have HRB := Lib.hid ((fV.block (SB + 1 + 1) (Array.getElem?_eq_some_iff.1 HRB.out).1 id).trans HRB.out)
 have HA := Lib.hid ((fV.block (SB + 1) (Array.getElem?_eq_some_iff.1 HA.out).1 id).trans HA.out)
 have HS := Lib.hid ((fV.block SB (Array.getElem?_eq_some_iff.1 HS.out).1 id).trans HS.out)
 have HF := Lib.hid (HF.out.trans fV)
 rw [hV]
 clear hV hk2 fV2 fV HZ Hz3 hS
 clear hkt
 have a0 := cells_in HA.out 0
 have a1 := cells_in HA.out 1
 have a2 := cells_in HA.out 2
 have a3 := cells_in HA.out 3
 have a4 := cells_in HA.out 4
 have a5 := cells_in HA.out 5
 have a6 := cells_in HA.out 6
 have a7 := cells_in HA.out 7
 have s0 := cells_in HS.out 0
 have s1 := cells_in HS.out 1
 have k0 := cells_in HK.out 0
 have k1 := cells_in HK.out 1
 have k2 := cells_in HK.out 2
 simp at a0 a1 a2 a3 a4 a5 a6 a7 s0 s1 k0 k1 k2
 go_wp2_with fail
 have HKv := HK
 have Hft := Lib.hid (show ∀ k, ft k → k < SB from fun k hk => by have := H.out.lt k hk; have := HSB.out; omega)
 have HP := (H.out.later HF.out).put1 x (by omega)
 obtain ⟨c, hc⟩ : ∃ c, (allV n E [x]).2 = c := ⟨_, rfl⟩
 obtain ⟨E', hE'⟩ : ∃ E', allE n E [x] = E' := ⟨_, rfl⟩
 rw [hc, hE'] at HP
 have Hc := Lib.hid hc
 have HE' := Lib.hid hE'
 unfold evV at HP
 refine HP.mono ?_
 rintro e w5 ⟨rfl, hq5, hf5⟩
 have HQ5 := Lib.hid hq5
 clear a0 a1 a2 a3 a4 a5 a6 a7 s0 s1 k0 k1 k2
 have HK := Lib.hid ((hf5.block (SB + 1 + 1 + 1) (Array.getElem?_eq_some_iff.1 HK.out).1 (fun h => by have := Hft.out _ h; omega)).trans HK.out)
 have HRB := Lib.hid ((hf5.block (SB + 1 + 1) (Array.getElem?_eq_some_iff.1 HRB.out).1 (fun h => by have := Hft.out _ h; omega)).trans HRB.out)
 have HA := Lib.hid ((hf5.block (SB + 1) (Array.getElem?_eq_some_iff.1 HA.out).1 (fun h => by have := Hft.out _ h; omega)).trans HA.out)
 have HS := Lib.hid ((hf5.block SB (Array.getElem?_eq_some_iff.1 HS.out).1 (fun h => by have := Hft.out _ h; omega)).trans HS.out)
 have F5 := Lib.hid (show Fr0 ft w w5 from (HF.out.mono (fun _ _ h => h.elim)).trans hf5)
 have HGR := Lib.hid (show ∀ k, qgrow ft V w5 k → ft k ∨ w.heap.size ≤ k from fun k hk => hk.imp id (fun h => Nat.le_trans HF.out.size h.1))
 have HKv5 := Lib.hid (show SB + 1 + 1 + 1 < w5.heap.size from (Array.getElem?_eq_some_iff.1 HK.out).1)
 have HVs := Lib.hid (show w.heap.size ≤ V.heap.size ∧ V.heap.size ≤ w5.heap.size from ⟨HF.out.size, hf5.size⟩)
 have HRE := Lib.hid (HR.out.1.fr0 F5.out (fun g o s e => (HR.out.2.2 g o s e).1))
 clear HP hq5 hf5 hc hE'
 have a0 := cells_in HA.out 0
 have a1 := cells_in HA.out 1
 have a2 := cells_in HA.out 2
 have a3 := cells_in HA.out 3
 have a4 := cells_in HA.out 4
 have a5 := cells_in HA.out 5
 have a6 := cells_in HA.out 6
 have a7 := cells_in HA.out 7
 have s0 := cells_in HS.out 0
 have s1 := cells_in HS.out 1
 have k0 := cells_in HK.out 0
 have k1 := cells_in HK.out 1
 have k2 := cells_in HK.out 2
 simp at a0 a1 a2 a3 a4 a5 a6 a7 s0 s1 k0 k1 k2
 go_wp2_with fail
 have hPr := rPut_any (n := n) E HRE.out Hm.out (by omega) (by have := HR.out.2.1; rw [Hm.out] at this; exact this) (by have := H.out.le.1; rw [Hm.out] at this; exact this) H.out.le.2 x
 rw [Hc.out, HE'.out] at hPr
 unfold evV at hPr
 refine hPr.mono ?_
 rintro e w6 ⟨v, rfl, hA, hf⟩
 obtain ⟨na, nc, rfl, hnc, hne, hnb⟩ := hA
 obtain ⟨nm, hnm⟩ : ∃ nm, E'.length = nm := ⟨_, rfl⟩
 rw [hnm] at hnc ⊢
 have Hnm := Lib.hid hnm
 have HNE := Lib.hid hne
 have HNB := Lib.hid hnb
 have HQ6 := Lib.hid (HQ5.out.later hf)
 clear a0 a1 a2 a3 a4 a5 a6 a7 s0 s1 k0 k1 k2
 have HK := Lib.hid ((hf.block (SB + 1 + 1 + 1) (Array.getElem?_eq_some_iff.1 HK.out).1 id).trans HK.out)
 have HRB := Lib.hid ((hf.block (SB + 1 + 1) (Array.getElem?_eq_some_iff.1 HRB.out).1 id).trans HRB.out)
 have HA := Lib.hid ((hf.block (SB + 1) (Array.getElem?_eq_some_iff.1 HA.out).1 id).trans HA.out)
 have HS := Lib.hid ((hf.block SB (Array.getElem?_eq_some_iff.1 HS.out).1 id).trans HS.out)
 have F6 := Lib.hid (F5.out.trans (hf.mono (fun _ _ h => h.elim)))
 clear hPr hf hnm hne hnb
 have HKo := HK
 go_wp2_with fail
 obtain ⟨NB, hNB⟩ : ∃ B, (w6).heap.size = B := ⟨_, rfl⟩
 obtain ⟨W7, hW7⟩ : ∃ W, (w6).alloc (.cells #[.int .i64 n, .slice na nm nc] 50) = W := ⟨_, rfl⟩
 have f7 : Fr0 none' (w6) W7 := by rw [← hW7]; exact (Fr0.refl _ _).alloc _
 have HN := Lib.hid (show W7.heap[NB]? = some (.cells #[.int .i64 n, .slice na nm nc] 50 (0, 0)) by rw [← hW7, ← hNB]; exact World.alloc_heap_new _ _)
 have HK := Lib.hid ((f7.block (SB + 1 + 1 + 1) (Array.getElem?_eq_some_iff.1 HK.out).1 id).trans HK.out)
 have HRB := Lib.hid ((f7.block (SB + 1 + 1) (Array.getElem?_eq_some_iff.1 HRB.out).1 id).trans HRB.out)
 have HA := Lib.hid ((f7.block (SB + 1) (Array.getElem?_eq_some_iff.1 HA.out).1 id).trans HA.out)
 have HS := Lib.hid ((f7.block SB (Array.getElem?_eq_some_iff.1 HS.out).1 id).trans HS.out)
 have HQ7 := Lib.hid (HQ6.out.later f7)
 have F7 := Lib.hid (F6.out.trans (f7.mono (fun _ _ h => h.elim)))
 have HNE := Lib.hid (HNE.out.later f7)
 have HNB := Lib.hid (show ∀ g o s, (na : Option Addr) = some ⟨g, o, s⟩ → (∃ o' s', ra = some ⟨g, o', s'⟩) ∨ (w5.heap.size ≤ g ∧ g < W7.heap.size) from fun g o s e => (HNB.out g o s e).imp id (fun h => ⟨h.1, Nat.lt_of_lt_of_le h.2 f7.size⟩))
 have HNr := Lib.hid (show SB + 1 + 1 ≠ NB ∧ SB + 1 ≠ NB ∧ SB ≠ NB by have h9 := (Array.getElem?_eq_some_iff.1 HK.out).1; rw [← hNB]; have h8 := (Array.getElem?_eq_some_iff.1 HKo.out).1; omega)
 have HN7 := Lib.hid f7
 rw [hW7]
 try rw [hNB]
 clear hW7 hNB f7
 have HY := Lib.hid (fun (W' : World) (hf : Fr0 (fun k => k = SB + 1 + 1) W7 W') => (show (W'.cell? ⟨SB, 0, none⟩ = some (.int .i64 n) ∧ W'.cell? ⟨SB, 1, none⟩ = some (.slice ra m rc)) ∧ (W'.cell? ⟨NB, 0, none⟩ = some (.int .i64 n) ∧ W'.cell? ⟨NB, 1, none⟩ = some (.slice na nm nc)) ∧ W'.cell? ⟨SB + 1, 0, none⟩ = some (.int .u8 kd) ∧ W'.cell? ⟨SB + 1, 1, none⟩ = some (.int .i64 x.key.time) ∧ W'.cell? ⟨SB + 1, 2, none⟩ = some (.int .i64 x.key.source) ∧ W'.cell? ⟨SB + 1, 3, none⟩ = some (.int .i64 x.key.seq) ∧ W'.cell? ⟨SB + 1, 4, none⟩ = some (.int .i64 x.to) ∧ W'.cell? ⟨SB + 1, 5, none⟩ = some (.int .i64 x.value) ∧ W'.cell? ⟨SB + 1, 6, none⟩ = some (.slice la lk lc) ∧ W'.cell? ⟨SB + 1, 7, none⟩ = some (.int .i64 t) from by
  have hn := HNr.out
  have h1 := (hf.block (SB + 1) (Array.getElem?_eq_some_iff.1 HA.out).1 (fun e => by omega)).trans HA.out
  have h2 := (hf.block SB (Array.getElem?_eq_some_iff.1 HS.out).1 (fun e => by omega)).trans HS.out
  have h3 := (hf.block NB (Array.getElem?_eq_some_iff.1 HN.out).1 (fun e => hn.1 e.symm)).trans HN.out
  refine ⟨⟨?_, ?_⟩, ⟨?_, ?_⟩, ?_, ?_, ?_, ?_, ?_, ?_, ?_, ?_⟩
  ·rw [cells_in h2]; rfl
  ·rw [cells_in h2]; rfl
  ·rw [cells_in h3]; rfl
  ·rw [cells_in h3]; rfl
  all_goals (rw [cells_in h1]; rfl)))
 obtain ⟨b, hb⟩ : ∃ b, decide (RightE x) = b := ⟨_, rfl⟩
 have HR1 := Lib.hid (fun W => QRight_is x W)
 have HR2 := Lib.hid (fun W => rRightE_any x W)
 unfold evV at HR1 HR2
 rw [hb] at HR1 HR2
 clear hb
 refine wp_region_held_drew (S := fun W' => Fr0 (fun k => k = SB + 1 + 1) W7 W') (by kernel_rfl) ((Fr0.refl _ W7).drew) (fun hHeld => ?_)
 refine tkn (i := 0) (v := .pointer (some ⟨qb, 0, none⟩)) (fun W' hSW => ?_) ?_
 ·obtain ⟨⟨s0, s1⟩, ⟨n0, n1⟩, a0, a1, a2, a3, a4, a5, a6, a7⟩ := HY.out W' hSW
  first | (go_simp; done) | exact rfl | (go_simp; rfl) | (go_simp; omega)
 try simp only [pUt, pUn, sEt, sEz, sEs]
 refine tkn (i := 1) (v := .agg #[.int .i64 n, .slice na nm nc]) (fun W' hSW => ?_) ?_
 ·obtain ⟨⟨s0, s1⟩, ⟨n0, n1⟩, a0, a1, a2, a3, a4, a5, a6, a7⟩ := HY.out W' hSW
  first | (go_simp; done) | exact rfl | (go_simp; rfl) | (go_simp; omega)
 try simp only [pUt, pUn, sEt, sEz, sEs]
 refine tkn (i := 2) (v := .int .i64 c) (fun W' hSW => ?_) ?_
 ·obtain ⟨⟨s0, s1⟩, ⟨n0, n1⟩, a0, a1, a2, a3, a4, a5, a6, a7⟩ := HY.out W' hSW
  first | (go_simp; done) | exact rfl | (go_simp; rfl) | (go_simp; omega)
 try simp only [pUt, pUn, sEt, sEz, sEs]
 refine tkn (i := 3) (v := .int .i64 c) (fun W' hSW => ?_) ?_
 ·obtain ⟨⟨s0, s1⟩, ⟨n0, n1⟩, a0, a1, a2, a3, a4, a5, a6, a7⟩ := HY.out W' hSW
  first | (go_simp; done) | exact rfl | (go_simp; rfl) | (go_simp; omega)
 try simp only [pUt, pUn, sEt, sEz, sEs]
 refine tkn (i := 4) (v := .bool true) (fun W' hSW => ?_) ?_
 ·obtain ⟨⟨s0, s1⟩, ⟨n0, n1⟩, a0, a1, a2, a3, a4, a5, a6, a7⟩ := HY.out W' hSW
  first | (go_simp; done) | exact rfl | (go_simp; rfl) | (go_simp; omega)
 try simp only [pUt, pUn, sEt, sEz, sEs]
 refine tkn (i := 5) (v := .bool true) (fun W' hSW => ?_) ?_
 ·obtain ⟨⟨s0, s1⟩, ⟨n0, n1⟩, a0, a1, a2, a3, a4, a5, a6, a7⟩ := HY.out W' hSW
  first | (go_simp; done) | exact rfl | (go_simp; rfl) | (go_simp; omega)
 try simp only [pUt, pUn, sEt, sEz, sEs]
 refine tkn (i := 6) (v := .pointer (some ⟨SB + 1, 1, none⟩)) (fun W' hSW => ?_) ?_
 ·obtain ⟨⟨s0, s1⟩, ⟨n0, n1⟩, a0, a1, a2, a3, a4, a5, a6, a7⟩ := HY.out W' hSW
  first | (go_simp; done) | exact rfl | (go_simp; rfl) | (go_simp; omega)
 try simp only [pUt, pUn, sEt, sEz, sEs]
 refine tkn (i := 7) (v := .agg #[.int .i64 x.key.time, .int .i64 x.key.source, .int .i64 x.key.seq, .int .i64 x.to, .int .i64 x.value]) (fun W' hSW => ?_) ?_
 ·obtain ⟨⟨s0, s1⟩, ⟨n0, n1⟩, a0, a1, a2, a3, a4, a5, a6, a7⟩ := HY.out W' hSW
  first | (go_simp; done) | exact rfl | (go_simp; rfl) | (go_simp; omega)
 try simp only [pUt, pUn, sEt, sEz, sEs]
 refine tkn (i := 9) (v := .pointer (some ⟨SB + 1, 1, none⟩)) (fun W' hSW => ?_) ?_
 ·obtain ⟨⟨s0, s1⟩, ⟨n0, n1⟩, a0, a1, a2, a3, a4, a5, a6, a7⟩ := HY.out W' hSW
  first | (go_simp; done) | exact rfl | (go_simp; rfl) | (go_simp; omega)
 try simp only [pUt, pUn, sEt, sEz, sEs]
 refine tkn (i := 10) (v := .agg #[.int .i64 x.key.time, .int .i64 x.key.source, .int .i64 x.key.seq, .int .i64 x.to, .int .i64 x.value]) (fun W' hSW => ?_) ?_
 ·obtain ⟨⟨s0, s1⟩, ⟨n0, n1⟩, a0, a1, a2, a3, a4, a5, a6, a7⟩ := HY.out W' hSW
  first | (go_simp; done) | exact rfl | (go_simp; rfl) | (go_simp; omega)
 try simp only [pUt, pUn, sEt, sEz, sEs]
 have hN : Fr0 none' W7 W7.drew := (Fr0.refl none' W7).drew
 refine take_call (i := 8) rfl (by kernel_rfl) (by kernel_rfl) (fun K hK => ?_)
 go_simp
 refine (HR1.out _).mono ?_
 rintro e w8 ⟨rfl, hf⟩
 have h8 : Fr0 none' W7 w8 := hN.trans hf
 clear hf hN
 go_wp2_with fail
 refine hK.out _ _ (h8.mono (fun _ _ h => h.elim)) (fun hS => ?_)
 clear hK K
 try simp only [pUt, pUn, sEt, sEz, sEs]
 refine take_call (i := 11) rfl (by kernel_rfl) (by kernel_rfl) (fun K hK => ?_)
 go_simp
 refine (HR2.out _).mono ?_
 rintro e w9 ⟨rfl, hf⟩
 have h9 : Fr0 none' W7 w9 := h8.trans hf
 clear hf h8
 go_wp2_with fail
 refine hK.out _ _ (h9.mono (fun _ _ h => h.elim)) (fun hS => ?_)
 clear hK K
 try simp only [pUt, pUn, sEt, sEz, sEs]
 clear hHeld
 have hHeld : Fr0 (fun k => k = SB + 1 + 1) W7 w9 := h9.mono (fun _ _ h => h.elim)
 refine tkn (i := 12) (v := .bool true) (fun W' hSW => ?_) ?_
 ·obtain ⟨⟨s0, s1⟩, ⟨n0, n1⟩, a0, a1, a2, a3, a4, a5, a6, a7⟩ := HY.out W' hSW
  first | (go_simp; done) | exact rfl | (go_simp; rfl) | (go_simp; omega)
 try simp only [pUt, pUn, sEt, sEz, sEs]
 refine tkn (i := 13) (v := .bool true) (fun W' hSW => ?_) ?_
 ·obtain ⟨⟨s0, s1⟩, ⟨n0, n1⟩, a0, a1, a2, a3, a4, a5, a6, a7⟩ := HY.out W' hSW
  first | (go_simp; done) | exact rfl | (go_simp; rfl) | (go_simp; omega)
 try simp only [pUt, pUn, sEt, sEz, sEs]
 refine tkn (i := 14) (v := .pointer (some ⟨qb, 0, none⟩)) (fun W' hSW => ?_) ?_
 ·obtain ⟨⟨s0, s1⟩, ⟨n0, n1⟩, a0, a1, a2, a3, a4, a5, a6, a7⟩ := HY.out W' hSW
  first | (go_simp; done) | exact rfl | (go_simp; rfl) | (go_simp; omega)
 try simp only [pUt, pUn, sEt, sEz, sEs]
 have HK := Lib.hid ((h9.block (SB + 1 + 1 + 1) (Array.getElem?_eq_some_iff.1 HK.out).1 id).trans HK.out)
 have HRB := Lib.hid ((h9.block (SB + 1 + 1) (Array.getElem?_eq_some_iff.1 HRB.out).1 id).trans HRB.out)
 have HA := Lib.hid ((h9.block (SB + 1) (Array.getElem?_eq_some_iff.1 HA.out).1 id).trans HA.out)
 have HS := Lib.hid ((h9.block SB (Array.getElem?_eq_some_iff.1 HS.out).1 id).trans HS.out)
 have t0 := thaw_in HRB.out 0
 have t1 := thaw_in HRB.out 1
 have u0 := cells_in HRB.out 0
 have u1 := cells_in HRB.out 1
 simp at u0 u1
 refine take_call (i := 15) rfl (by kernel_rfl) (by kernel_rfl) (fun K hK => ?_)
 go_simp
 obtain ⟨W9, hW9⟩ : ∃ W, ((w9).setCell ⟨SB + 1 + 1, 0, none⟩ (.int .i64 n)).setCell ⟨SB + 1 + 1, 1, none⟩ (.slice na nm nc) = W := ⟨_, rfl⟩
 have f9 : Fr0 (fun k => k = SB + 1 + 1) (w9) W9 := by rw [← hW9]; exact ((Fr0.refl (fun k => k = SB + 1 + 1) (w9)).setCell (fun _ => rfl) _).setCell (fun _ => rfl) _
 have hb9 : W9.heap[SB + 1 + 1]? = some (.cells #[.int .i64 n, .slice na nm nc] 50 (0, 0)) := by rw [← hW9]; exact heap_set_cell (heap_set_cell HRB.out _) _
 rw [hW9]
 refine hK.out _ _ (hHeld.trans f9) (fun hS => ?_)
 clear hK K hW9 t0 t1 u0 u1
 try simp only [pUt, pUn, sEt, sEz, sEs]
 refine tkn (i := 16) (v := .bool true) (fun W' hSW => ?_) ?_
 ·obtain ⟨⟨s0, s1⟩, ⟨n0, n1⟩, a0, a1, a2, a3, a4, a5, a6, a7⟩ := HY.out W' hSW
  first | (go_simp; done) | exact rfl | (go_simp; rfl) | (go_simp; omega)
 try simp only [pUt, pUn, sEt, sEz, sEs]
 refine wpAnyH_done (by kernel_rfl) ?_ _
 have f79 : Fr0 (fun k => k = SB + 1 + 1) W7 W9 := hHeld.trans f9
 have r0 := cells_in hb9 0
 have r1 := cells_in hb9 1
 simp at r0 r1
 have HQ9 := Lib.hid (HQ7.out.fr0 f79 (fun k hk e => by
  subst e
  rcases hk with hk | hk
  ·have := Hft.out _ hk; omega
  ·have := hk.1; have := (Array.getElem?_eq_some_iff.1 HKv.out).1; omega))
 have F79 := Lib.hid f79
 clear f79 f9 hHeld h9 hS HY HR1 HR2
 go_wp2_with fail
 have hgr := HGR.out
 have hlt5 := HQ5.out.lt
 have hcr := HR.out.2.2
 have hcase : ∀ g o s, (na : Option Addr) = some ⟨g, o, s⟩ → g < (W9).heap.size ∧ g ≠ SB + 1 + 1 ∧ ¬ (qgrow ft V w5) g := fun g o s e => by
  have h2 := F79.out.size
  rcases HNB.out g o s e with ⟨o', s', e'⟩ | h1
  ·obtain ⟨h3, h4⟩ := hcr g o' s' e'
   have := HSB.out
   have := F7.out.size
   refine ⟨by omega, by omega, fun hk => ?_⟩
   rcases hgr g hk with h5 | h5
   ·exact h3 h5
   ·omega
  ·have := HKv5.out
   refine ⟨by omega, by omega, fun hk => ?_⟩
   have := hlt5 g hk
   omega
 refine bodyPost_ret (v := .tuple #[.pointer (some ⟨qb, 0, none⟩), .agg #[.int .i64 n, .slice na nm nc], .bool true]) (by simp [results, Tryz.results20, go_sem, r0, r1]) rfl ⟨qb, T + 1, E', qgrow ft V w5, na, nc, by rw [Hnm.out], HQ9.out, by omega, hgr, ⟨HNE.out.fr0 F79.out (fun g o s e => (hcase g o s e).2.1), by rw [Hnm.out]; exact hnc, fun g o s e => ⟨(hcase g o s e).2.2, (hcase g o s e).1⟩⟩, F7.out.trans' F79.out (fun k hk e => by have := HSB.out; omega), fun g o s e => (HNB.out g o s e).imp id (fun h => by have := HSB.out; have := HKv5.out; omega)⟩
set_option maxRecDepth 100000 in
set_option maxHeartbeats 4000000 in
theorem do_1 {w : World} {qb n T m rc lk lc : Nat} {E : List Ev} {ft : Nat → Prop} {ra la : Option Addr} {kd t : Int} {x : Ev} (h : QIs w qb n T E ft) (hT : T ≤ 1000000) (hr : RsK w n E ra rc ft) (hm : E.length = m) (hkd : 0 ≤ kd ∧ kd < 256)
  (hk : kd % 10 = 1) :
  Calls Tryz.prog 20 #[.pointer (some ⟨qb, 0, none⟩), .agg #[.int .i64 n, .slice ra m rc], actV kd x la lk lc t] w (DoPost n T w ft ra) := by
 have H := Lib.hid h
 have HR := Lib.hid hr
 have Hm := Lib.hid hm
 have hle := h.le
 have hm256 : m ≤ 256 := by omega
 unfold actV
 clear h hr hle hm
 go_enter Tryz.func20, Tryz.ntmps20
 go_wp2_with fail
 have hkt : kd.tmod 10 = 1 := by rw [Int.tmod_eq_emod_of_nonneg hkd.1]; exact hk
 clear hk
 obtain ⟨SB, hSB⟩ : ∃ B, w.heap.size = B := ⟨_, rfl⟩
 obtain ⟨W1, hW1⟩ : ∃ W, w.alloc (.cells #[.int .i64 n, .slice ra m rc] 50) = W := ⟨_, rfl⟩
 have hs1 : W1.heap[SB]? = some (.cells #[.int .i64 n, .slice ra m rc] 50 (0, 0)) := by rw [← hW1, ← hSB]; exact World.alloc_heap_new w _
 have f1 : Fr0 none' w W1 := by rw [← hW1]; exact (Fr0.refl _ _).alloc _
 have z1 : W1.heap.size = SB + 1 := by rw [← hW1, World.size_alloc, hSB]
 rw [hW1]
 try rw [hSB]
 obtain ⟨W2, hW2⟩ : ∃ W, W1.alloc (.cells #[.int .u8 kd, .int .i64 x.key.time, .int .i64 x.key.source, .int .i64 x.key.seq, .int .i64 x.to, .int .i64 x.value, .slice la lk lc, .int .i64 t] 32) = W := ⟨_, rfl⟩
 have f2 : Fr0 none' W1 W2 := by rw [← hW2]; exact (Fr0.refl _ _).alloc _
 have hx2 : W2.heap[SB + 1]? = some (.cells #[.int .u8 kd, .int .i64 x.key.time, .int .i64 x.key.source, .int .i64 x.key.seq, .int .i64 x.to, .int .i64 x.value, .slice la lk lc, .int .i64 t] 32 (0, 0)) := by rw [← hW2, ← z1]; exact World.alloc_heap_new W1 _
 have z2 : W2.heap.size = SB + 1 + 1 := by rw [← hW2, World.size_alloc, z1]
 rw [hW2]
 obtain ⟨W3, hW3⟩ : ∃ W, W2.alloc (.cells #[.int .i64 0, .slice none 0 0] 50) = W := ⟨_, rfl⟩
 have f3 : Fr0 none' W2 W3 := by rw [← hW3]; exact (Fr0.refl _ _).alloc _
 have HRB := Lib.hid (show W3.heap[SB + 1 + 1]? = some (.cells #[.int .i64 0, .slice none 0 0] 50 (0, 0)) by rw [← hW3, ← z2]; exact World.alloc_heap_new W2 _)
 have HA := Lib.hid ((f3.block (SB + 1) (Array.getElem?_eq_some_iff.1 hx2).1 id).trans hx2)
 have HS := Lib.hid (((f2.trans f3).block SB (Array.getElem?_eq_some_iff.1 hs1).1 id).trans hs1)
 have HF := Lib.hid ((f1.trans f2).trans f3)
 have HSB := Lib.hid hSB
 have z3 : W3.heap.size = SB + 1 + 1 + 1 := by rw [← hW3, World.size_alloc, z2]
 have Hz3 := Lib.hid z3
 rw [hW3]
 clear hW1 hSB hs1 f1 hW2 f2 f3 hW3 z1 z2 hx2 z3
 have HZ := Lib.hid (fun (W' : World) (hf : Fr0 none' W3 W') => (show W'.cell? ⟨SB + 1, 0, none⟩ = some (.int .u8 kd) ∧ W'.cell? ⟨SB + 1, 1, none⟩ = some (.int .i64 x.key.time) ∧ W'.cell? ⟨SB + 1, 2, none⟩ = some (.int .i64 x.key.source) ∧ W'.cell? ⟨SB + 1, 3, none⟩ = some (.int .i64 x.key.seq) ∧ W'.cell? ⟨SB + 1, 4, none⟩ = some (.int .i64 x.to) ∧ W'.cell? ⟨SB + 1, 5, none⟩ = some (.int .i64 x.value) ∧ W'.cell? ⟨SB + 1, 6, none⟩ = some (.slice la lk lc) ∧ W'.cell? ⟨SB + 1, 7, none⟩ = some (.int .i64 t) from by
  have h1 := (hf.block (SB + 1) (Array.getElem?_eq_some_iff.1 HA.out).1 id).trans HA.out
  refine ⟨?_, ?_, ?_, ?_, ?_, ?_, ?_, ?_⟩ <;> (rw [cells_in h1]; rfl)))
 refine wp_region_held_drew (S := fun W' => Fr0 none' W3 W') (by kernel_rfl) ((Fr0.refl _ W3).drew) (fun hHeld => ?_)
 refine tkn (i := 0) (v := .pointer (some ⟨SB + 1, 0, none⟩)) (fun W' hSW => ?_) ?_
 ·obtain ⟨a0, a1, a2, a3, a4, a5, a6, a7⟩ := HZ.out W' hSW
  first | (go_simp; done) | exact rfl | (go_simp; rfl) | (go_simp; omega)
 try simp only [pUt, pUn, sEt, sEz, sEs]
 refine tkn (i := 1) (v := .int .u8 kd) (fun W' hSW => ?_) ?_
 ·obtain ⟨a0, a1, a2, a3, a4, a5, a6, a7⟩ := HZ.out W' hSW
  first | (go_simp; done) | exact rfl | (go_simp; rfl) | (go_simp; omega)
 try simp only [pUt, pUn, sEt, sEz, sEs]
 refine tkn (i := 2) (v := .int .u8 1) (fun W' hSW => ?_) ?_
 ·obtain ⟨a0, a1, a2, a3, a4, a5, a6, a7⟩ := HZ.out W' hSW
  first | (go_simp; done) | exact rfl | (go_simp; rfl) | (go_simp; omega)
 try simp only [pUt, pUn, sEt, sEz, sEs]
 refine tkn (i := 3) (v := .pointer (some ⟨SB + 1, 1, none⟩)) (fun W' hSW => ?_) ?_
 ·obtain ⟨a0, a1, a2, a3, a4, a5, a6, a7⟩ := HZ.out W' hSW
  first | (go_simp; done) | exact rfl | (go_simp; rfl) | (go_simp; omega)
 try simp only [pUt, pUn, sEt, sEz, sEs]
 refine tkn (i := 4) (v := .pointer (some ⟨SB + 1, 1, none⟩)) (fun W' hSW => ?_) ?_
 ·obtain ⟨a0, a1, a2, a3, a4, a5, a6, a7⟩ := HZ.out W' hSW
  first | (go_simp; done) | exact rfl | (go_simp; rfl) | (go_simp; omega)
 try simp only [pUt, pUn, sEt, sEz, sEs]
 refine tkn (i := 5) (v := .agg #[.int .i64 x.key.time, .int .i64 x.key.source, .int .i64 x.key.seq]) (fun W' hSW => ?_) ?_
 ·obtain ⟨a0, a1, a2, a3, a4, a5, a6, a7⟩ := HZ.out W' hSW
  first | (go_simp; done) | exact rfl | (go_simp; rfl) | (go_simp; omega)
 try simp only [pUt, pUn, sEt, sEz, sEs]
 refine take_call (i := 6) rfl (by kernel_rfl) (by kernel_rfl) (fun K hK => ?_)
 go_simp
 rw [Hz3.out]
 obtain ⟨V1, hV1⟩ : ∃ W, W3.alloc (.cells #[.int .i64 0, .int .i64 0, .int .i64 0] 26) = W := ⟨_, rfl⟩
 have fV : Fr0 none' W3 V1 := by rw [← hV1]; exact (Fr0.refl _ _).alloc _
 have hk1 : V1.heap[SB + 1 + 1 + 1]? = some (.cells #[.int .i64 0, .int .i64 0, .int .i64 0] 26 (0, 0)) := by rw [← hV1, ← Hz3.out]; exact World.alloc_heap_new W3 _
 rw [hV1]
 refine hK.out _ _ fV.drew (fun hS => ?_)
 clear hK K hV1 hHeld
 try simp only [pUt, pUn, sEt, sEz, sEs]
 refine tkn (i := 7) (v := .int .u8 1) (fun W' hSW => ?_) ?_
 ·obtain ⟨a0, a1, a2, a3, a4, a5, a6, a7⟩ := HZ.out W' hSW
  first | (go_simp; done) | exact rfl | (go_simp; rfl) | (go_simp; omega)
 try simp only [pUt, pUn, sEt, sEz, sEs]
 refine take_call (i := 8) rfl (by kernel_rfl) (by kernel_rfl) (fun K hK => ?_)
 have t0 := thaw_in hk1 0
 have t1 := thaw_in hk1 1
 have t2 := thaw_in hk1 2
 have u0 := cells_in hk1 0
 have u1 := cells_in hk1 1
 have u2 := cells_in hk1 2
 simp at u0 u1 u2
 go_simp
 obtain ⟨V2, hV2⟩ : ∃ W, ((V1.setCell ⟨SB + 1 + 1 + 1, 0, none⟩ (.int .i64 x.key.time)).setCell ⟨SB + 1 + 1 + 1, 1, none⟩ (.int .i64 x.key.source)).setCell ⟨SB + 1 + 1 + 1, 2, none⟩ (.int .i64 x.key.seq) = W := ⟨_, rfl⟩
 have hg3 : SB + 1 + 1 + 1 < W3.heap.size → none' (SB + 1 + 1 + 1) := fun e => by have := Hz3.out; omega
 have fV2 : Fr0 none' W3 V2 := by rw [← hV2]; exact ((fV.setCell hg3 _).setCell hg3 _).setCell hg3 _
 have hk2 : V2.heap[SB + 1 + 1 + 1]? = some (.cells #[.int .i64 x.key.time, .int .i64 x.key.source, .int .i64 x.key.seq] 26 (0, 0)) := by rw [← hV2]; exact heap_set_cell (heap_set_cell (heap_set_cell hk1 _) _) _
 rw [hV2]
 refine hK.out _ _ fV2.drew (fun hS => ?_)
 clear hK K hV2 t0 t1 t2 u0 u1 u2 hg3 fV hk1
 try simp only [pUt, pUn, sEt, sEz, sEs]
 refine wpAnyH_done (by kernel_rfl) ?_ _
 obtain ⟨V, hV⟩ : ∃ W, V2.drew = W := ⟨_, rfl⟩
 have fV : Fr0 none' W3 V := by rw [← hV]; exact fV2.drew
 have HK := Lib.hid (show V.heap[SB + 1 + 1 + 1]? = some (.cells #[.int .i64 x.key.time, .int .i64 x.key.source, .int .i64 x.key.seq] 26 (0, 0)) by rw [← hV]; exact hk2)
 have HRB := Lib.hid ((fV.block (SB + 1 + 1) (Array.getElem?_eq_some_iff.1 HRB.out).1 id).trans HRB.out)
 have HA := Lib.hid ((fV.block (SB + 1) (Array.getElem?_eq_some_iff.1 HA.out).1 id).trans HA.out)
 have HS := Lib.hid ((fV.block SB (Array.getElem?_eq_some_iff.1 HS.out).1 id).trans HS.out)
 have HF := Lib.hid (HF.out.trans fV)
 rw [hV]
 clear hV hk2 fV2 fV HZ Hz3 hS
 clear hkt
 have a0 := cells_in HA.out 0
 have a1 := cells_in HA.out 1
 have a2 := cells_in HA.out 2
 have a3 := cells_in HA.out 3
 have a4 := cells_in HA.out 4
 have a5 := cells_in HA.out 5
 have a6 := cells_in HA.out 6
 have a7 := cells_in HA.out 7
 have s0 := cells_in HS.out 0
 have s1 := cells_in HS.out 1
 have k0 := cells_in HK.out 0
 have k1 := cells_in HK.out 1
 have k2 := cells_in HK.out 2
 simp at a0 a1 a2 a3 a4 a5 a6 a7 s0 s1 k0 k1 k2
 go_wp2_with fail
 have HKv := HK
 have Hft := Lib.hid (show ∀ k, ft k → k < SB from fun k hk => by have := H.out.lt k hk; have := HSB.out; omega)
 have HP := (H.out.later HF.out).put1 x (by omega)
 obtain ⟨c, hc⟩ : ∃ c, (allV n E [x]).2 = c := ⟨_, rfl⟩
 obtain ⟨E', hE'⟩ : ∃ E', allE n E [x] = E' := ⟨_, rfl⟩
 rw [hc, hE'] at HP
 have Hc := Lib.hid hc
 have HE' := Lib.hid hE'
 unfold evV at HP
 refine HP.mono ?_
 rintro e w5 ⟨rfl, hq5, hf5⟩
 have HQ5 := Lib.hid hq5
 clear a0 a1 a2 a3 a4 a5 a6 a7 s0 s1 k0 k1 k2
 have HK := Lib.hid ((hf5.block (SB + 1 + 1 + 1) (Array.getElem?_eq_some_iff.1 HK.out).1 (fun h => by have := Hft.out _ h; omega)).trans HK.out)
 have HRB := Lib.hid ((hf5.block (SB + 1 + 1) (Array.getElem?_eq_some_iff.1 HRB.out).1 (fun h => by have := Hft.out _ h; omega)).trans HRB.out)
 have HA := Lib.hid ((hf5.block (SB + 1) (Array.getElem?_eq_some_iff.1 HA.out).1 (fun h => by have := Hft.out _ h; omega)).trans HA.out)
 have HS := Lib.hid ((hf5.block SB (Array.getElem?_eq_some_iff.1 HS.out).1 (fun h => by have := Hft.out _ h; omega)).trans HS.out)
 have F5 := Lib.hid (show Fr0 ft w w5 from (HF.out.mono (fun _ _ h => h.elim)).trans hf5)
 have HGR := Lib.hid (show ∀ k, qgrow ft V w5 k → ft k ∨ w.heap.size ≤ k from fun k hk => hk.imp id (fun h => Nat.le_trans HF.out.size h.1))
 have HKv5 := Lib.hid (show SB + 1 + 1 + 1 < w5.heap.size from (Array.getElem?_eq_some_iff.1 HK.out).1)
 have HVs := Lib.hid (show w.heap.size ≤ V.heap.size ∧ V.heap.size ≤ w5.heap.size from ⟨HF.out.size, hf5.size⟩)
 have HRE := Lib.hid (HR.out.1.fr0 F5.out (fun g o s e => (HR.out.2.2 g o s e).1))
 clear HP hq5 hf5 hc hE'
 have a0 := cells_in HA.out 0
 have a1 := cells_in HA.out 1
 have a2 := cells_in HA.out 2
 have a3 := cells_in HA.out 3
 have a4 := cells_in HA.out 4
 have a5 := cells_in HA.out 5
 have a6 := cells_in HA.out 6
 have a7 := cells_in HA.out 7
 have s0 := cells_in HS.out 0
 have s1 := cells_in HS.out 1
 have k0 := cells_in HK.out 0
 have k1 := cells_in HK.out 1
 have k2 := cells_in HK.out 2
 simp at a0 a1 a2 a3 a4 a5 a6 a7 s0 s1 k0 k1 k2
 go_wp2_with fail
 have hPr := rPut_any (n := n) E HRE.out Hm.out (by omega) (by have := HR.out.2.1; rw [Hm.out] at this; exact this) (by have := H.out.le.1; rw [Hm.out] at this; exact this) H.out.le.2 x
 rw [Hc.out, HE'.out] at hPr
 unfold evV at hPr
 refine hPr.mono ?_
 rintro e w6 ⟨v, rfl, hA, hf⟩
 obtain ⟨na, nc, rfl, hnc, hne, hnb⟩ := hA
 obtain ⟨nm, hnm⟩ : ∃ nm, E'.length = nm := ⟨_, rfl⟩
 rw [hnm] at hnc ⊢
 have Hnm := Lib.hid hnm
 have HNE := Lib.hid hne
 have HNB := Lib.hid hnb
 have HQ6 := Lib.hid (HQ5.out.later hf)
 clear a0 a1 a2 a3 a4 a5 a6 a7 s0 s1 k0 k1 k2
 have HK := Lib.hid ((hf.block (SB + 1 + 1 + 1) (Array.getElem?_eq_some_iff.1 HK.out).1 id).trans HK.out)
 have HRB := Lib.hid ((hf.block (SB + 1 + 1) (Array.getElem?_eq_some_iff.1 HRB.out).1 id).trans HRB.out)
 have HA := Lib.hid ((hf.block (SB + 1) (Array.getElem?_eq_some_iff.1 HA.out).1 id).trans HA.out)
 have HS := Lib.hid ((hf.block SB (Array.getElem?_eq_some_iff.1 HS.out).1 id).trans HS.out)
 have F6 := Lib.hid (F5.out.trans (hf.mono (fun _ _ h => h.elim)))
 clear hPr hf hnm hne hnb
 have HKo := HK
 go_wp2_with fail
 obtain ⟨NB, hNB⟩ : ∃ B, (w6).heap.size = B := ⟨_, rfl⟩
 obtain ⟨W7, hW7⟩ : ∃ W, (w6).alloc (.cells #[.int .i64 n, .slice na nm nc] 50) = W := ⟨_, rfl⟩
 have f7 : Fr0 none' (w6) W7 := by rw [← hW7]; exact (Fr0.refl _ _).alloc _
 have HN := Lib.hid (show W7.heap[NB]? = some (.cells #[.int .i64 n, .slice na nm nc] 50 (0, 0)) by rw [← hW7, ← hNB]; exact World.alloc_heap_new _ _)
 have HK := Lib.hid ((f7.block (SB + 1 + 1 + 1) (Array.getElem?_eq_some_iff.1 HK.out).1 id).trans HK.out)
 have HRB := Lib.hid ((f7.block (SB + 1 + 1) (Array.getElem?_eq_some_iff.1 HRB.out).1 id).trans HRB.out)
 have HA := Lib.hid ((f7.block (SB + 1) (Array.getElem?_eq_some_iff.1 HA.out).1 id).trans HA.out)
 have HS := Lib.hid ((f7.block SB (Array.getElem?_eq_some_iff.1 HS.out).1 id).trans HS.out)
 have HQ7 := Lib.hid (HQ6.out.later f7)
 have F7 := Lib.hid (F6.out.trans (f7.mono (fun _ _ h => h.elim)))
 have HNE := Lib.hid (HNE.out.later f7)
 have HNB := Lib.hid (show ∀ g o s, (na : Option Addr) = some ⟨g, o, s⟩ → (∃ o' s', ra = some ⟨g, o', s'⟩) ∨ (w5.heap.size ≤ g ∧ g < W7.heap.size) from fun g o s e => (HNB.out g o s e).imp id (fun h => ⟨h.1, Nat.lt_of_lt_of_le h.2 f7.size⟩))
 have HNr := Lib.hid (show SB + 1 + 1 ≠ NB ∧ SB + 1 ≠ NB ∧ SB ≠ NB by have h9 := (Array.getElem?_eq_some_iff.1 HK.out).1; rw [← hNB]; have h8 := (Array.getElem?_eq_some_iff.1 HKo.out).1; omega)
 have HN7 := Lib.hid f7
 rw [hW7]
 try rw [hNB]
 clear hW7 hNB f7
 have HY := Lib.hid (fun (W' : World) (hf : Fr0 (fun k => k = SB + 1 + 1) W7 W') => (show (W'.cell? ⟨SB, 0, none⟩ = some (.int .i64 n) ∧ W'.cell? ⟨SB, 1, none⟩ = some (.slice ra m rc)) ∧ (W'.cell? ⟨NB, 0, none⟩ = some (.int .i64 n) ∧ W'.cell? ⟨NB, 1, none⟩ = some (.slice na nm nc)) ∧ W'.cell? ⟨SB + 1, 0, none⟩ = some (.int .u8 kd) ∧ W'.cell? ⟨SB + 1, 1, none⟩ = some (.int .i64 x.key.time) ∧ W'.cell? ⟨SB + 1, 2, none⟩ = some (.int .i64 x.key.source) ∧ W'.cell? ⟨SB + 1, 3, none⟩ = some (.int .i64 x.key.seq) ∧ W'.cell? ⟨SB + 1, 4, none⟩ = some (.int .i64 x.to) ∧ W'.cell? ⟨SB + 1, 5, none⟩ = some (.int .i64 x.value) ∧ W'.cell? ⟨SB + 1, 6, none⟩ = some (.slice la lk lc) ∧ W'.cell? ⟨SB + 1, 7, none⟩ = some (.int .i64 t) from by
  have hn := HNr.out
  have h1 := (hf.block (SB + 1) (Array.getElem?_eq_some_iff.1 HA.out).1 (fun e => by omega)).trans HA.out
  have h2 := (hf.block SB (Array.getElem?_eq_some_iff.1 HS.out).1 (fun e => by omega)).trans HS.out
  have h3 := (hf.block NB (Array.getElem?_eq_some_iff.1 HN.out).1 (fun e => hn.1 e.symm)).trans HN.out
  refine ⟨⟨?_, ?_⟩, ⟨?_, ?_⟩, ?_, ?_, ?_, ?_, ?_, ?_, ?_, ?_⟩
  ·rw [cells_in h2]; rfl
  ·rw [cells_in h2]; rfl
  ·rw [cells_in h3]; rfl
  ·rw [cells_in h3]; rfl
  all_goals (rw [cells_in h1]; rfl)))
 obtain ⟨b, hb⟩ : ∃ b, decide (RightE x) = b := ⟨_, rfl⟩
 have HR1 := Lib.hid (fun W => QRight_is x W)
 have HR2 := Lib.hid (fun W => rRightE_any x W)
 unfold evV at HR1 HR2
 rw [hb] at HR1 HR2
 clear hb
 refine wp_region_held_drew (S := fun W' => Fr0 (fun k => k = SB + 1 + 1) W7 W') (by kernel_rfl) ((Fr0.refl _ W7).drew) (fun hHeld => ?_)
 refine tkn (i := 0) (v := .pointer (some ⟨qb, 0, none⟩)) (fun W' hSW => ?_) ?_
 ·obtain ⟨⟨s0, s1⟩, ⟨n0, n1⟩, a0, a1, a2, a3, a4, a5, a6, a7⟩ := HY.out W' hSW
  first | (go_simp; done) | exact rfl | (go_simp; rfl) | (go_simp; omega)
 try simp only [pUt, pUn, sEt, sEz, sEs]
 refine tkn (i := 1) (v := .agg #[.int .i64 n, .slice na nm nc]) (fun W' hSW => ?_) ?_
 ·obtain ⟨⟨s0, s1⟩, ⟨n0, n1⟩, a0, a1, a2, a3, a4, a5, a6, a7⟩ := HY.out W' hSW
  first | (go_simp; done) | exact rfl | (go_simp; rfl) | (go_simp; omega)
 try simp only [pUt, pUn, sEt, sEz, sEs]
 refine tkn (i := 2) (v := .int .i64 c) (fun W' hSW => ?_) ?_
 ·obtain ⟨⟨s0, s1⟩, ⟨n0, n1⟩, a0, a1, a2, a3, a4, a5, a6, a7⟩ := HY.out W' hSW
  first | (go_simp; done) | exact rfl | (go_simp; rfl) | (go_simp; omega)
 try simp only [pUt, pUn, sEt, sEz, sEs]
 refine tkn (i := 3) (v := .int .i64 c) (fun W' hSW => ?_) ?_
 ·obtain ⟨⟨s0, s1⟩, ⟨n0, n1⟩, a0, a1, a2, a3, a4, a5, a6, a7⟩ := HY.out W' hSW
  first | (go_simp; done) | exact rfl | (go_simp; rfl) | (go_simp; omega)
 try simp only [pUt, pUn, sEt, sEz, sEs]
 refine tkn (i := 4) (v := .bool true) (fun W' hSW => ?_) ?_
 ·obtain ⟨⟨s0, s1⟩, ⟨n0, n1⟩, a0, a1, a2, a3, a4, a5, a6, a7⟩ := HY.out W' hSW
  first | (go_simp; done) | exact rfl | (go_simp; rfl) | (go_simp; omega)
 try simp only [pUt, pUn, sEt, sEz, sEs]
 refine tkn (i := 5) (v := .bool true) (fun W' hSW => ?_) ?_
 ·obtain ⟨⟨s0, s1⟩, ⟨n0, n1⟩, a0, a1, a2, a3, a4, a5, a6, a7⟩ := HY.out W' hSW
  first | (go_simp; done) | exact rfl | (go_simp; rfl) | (go_simp; omega)
 try simp only [pUt, pUn, sEt, sEz, sEs]
 refine tkn (i := 6) (v := .pointer (some ⟨SB + 1, 1, none⟩)) (fun W' hSW => ?_) ?_
 ·obtain ⟨⟨s0, s1⟩, ⟨n0, n1⟩, a0, a1, a2, a3, a4, a5, a6, a7⟩ := HY.out W' hSW
  first | (go_simp; done) | exact rfl | (go_simp; rfl) | (go_simp; omega)
 try simp only [pUt, pUn, sEt, sEz, sEs]
 refine tkn (i := 7) (v := .agg #[.int .i64 x.key.time, .int .i64 x.key.source, .int .i64 x.key.seq, .int .i64 x.to, .int .i64 x.value]) (fun W' hSW => ?_) ?_
 ·obtain ⟨⟨s0, s1⟩, ⟨n0, n1⟩, a0, a1, a2, a3, a4, a5, a6, a7⟩ := HY.out W' hSW
  first | (go_simp; done) | exact rfl | (go_simp; rfl) | (go_simp; omega)
 try simp only [pUt, pUn, sEt, sEz, sEs]
 refine tkn (i := 9) (v := .pointer (some ⟨SB + 1, 1, none⟩)) (fun W' hSW => ?_) ?_
 ·obtain ⟨⟨s0, s1⟩, ⟨n0, n1⟩, a0, a1, a2, a3, a4, a5, a6, a7⟩ := HY.out W' hSW
  first | (go_simp; done) | exact rfl | (go_simp; rfl) | (go_simp; omega)
 try simp only [pUt, pUn, sEt, sEz, sEs]
 refine tkn (i := 10) (v := .agg #[.int .i64 x.key.time, .int .i64 x.key.source, .int .i64 x.key.seq, .int .i64 x.to, .int .i64 x.value]) (fun W' hSW => ?_) ?_
 ·obtain ⟨⟨s0, s1⟩, ⟨n0, n1⟩, a0, a1, a2, a3, a4, a5, a6, a7⟩ := HY.out W' hSW
  first | (go_simp; done) | exact rfl | (go_simp; rfl) | (go_simp; omega)
 try simp only [pUt, pUn, sEt, sEz, sEs]
 have hN : Fr0 none' W7 W7.drew := (Fr0.refl none' W7).drew
 refine take_call (i := 8) rfl (by kernel_rfl) (by kernel_rfl) (fun K hK => ?_)
 go_simp
 refine (HR1.out _).mono ?_
 rintro e w8 ⟨rfl, hf⟩
 have h8 : Fr0 none' W7 w8 := hN.trans hf
 clear hf hN
 go_wp2_with fail
 refine hK.out _ _ (h8.mono (fun _ _ h => h.elim)) (fun hS => ?_)
 clear hK K
 try simp only [pUt, pUn, sEt, sEz, sEs]
 refine take_call (i := 11) rfl (by kernel_rfl) (by kernel_rfl) (fun K hK => ?_)
 go_simp
 refine (HR2.out _).mono ?_
 rintro e w9 ⟨rfl, hf⟩
 have h9 : Fr0 none' W7 w9 := h8.trans hf
 clear hf h8
 go_wp2_with fail
 refine hK.out _ _ (h9.mono (fun _ _ h => h.elim)) (fun hS => ?_)
 clear hK K
 try simp only [pUt, pUn, sEt, sEz, sEs]
 clear hHeld
 have hHeld : Fr0 (fun k => k = SB + 1 + 1) W7 w9 := h9.mono (fun _ _ h => h.elim)
 refine tkn (i := 12) (v := .bool true) (fun W' hSW => ?_) ?_
 ·obtain ⟨⟨s0, s1⟩, ⟨n0, n1⟩, a0, a1, a2, a3, a4, a5, a6, a7⟩ := HY.out W' hSW
  first | (go_simp; done) | exact rfl | (go_simp; rfl) | (go_simp; omega)
 try simp only [pUt, pUn, sEt, sEz, sEs]
 refine tkn (i := 13) (v := .bool true) (fun W' hSW => ?_) ?_
 ·obtain ⟨⟨s0, s1⟩, ⟨n0, n1⟩, a0, a1, a2, a3, a4, a5, a6, a7⟩ := HY.out W' hSW
  first | (go_simp; done) | exact rfl | (go_simp; rfl) | (go_simp; omega)
 try simp only [pUt, pUn, sEt, sEz, sEs]
 refine tkn (i := 14) (v := .pointer (some ⟨qb, 0, none⟩)) (fun W' hSW => ?_) ?_
 ·obtain ⟨⟨s0, s1⟩, ⟨n0, n1⟩, a0, a1, a2, a3, a4, a5, a6, a7⟩ := HY.out W' hSW
  first | (go_simp; done) | exact rfl | (go_simp; rfl) | (go_simp; omega)
 try simp only [pUt, pUn, sEt, sEz, sEs]
 have HK := Lib.hid ((h9.block (SB + 1 + 1 + 1) (Array.getElem?_eq_some_iff.1 HK.out).1 id).trans HK.out)
 have HRB := Lib.hid ((h9.block (SB + 1 + 1) (Array.getElem?_eq_some_iff.1 HRB.out).1 id).trans HRB.out)
 have HA := Lib.hid ((h9.block (SB + 1) (Array.getElem?_eq_some_iff.1 HA.out).1 id).trans HA.out)
 have HS := Lib.hid ((h9.block SB (Array.getElem?_eq_some_iff.1 HS.out).1 id).trans HS.out)
 have t0 := thaw_in HRB.out 0
 have t1 := thaw_in HRB.out 1
 have u0 := cells_in HRB.out 0
 have u1 := cells_in HRB.out 1
 simp at u0 u1
 refine take_call (i := 15) rfl (by kernel_rfl) (by kernel_rfl) (fun K hK => ?_)
 go_simp
 obtain ⟨W9, hW9⟩ : ∃ W, ((w9).setCell ⟨SB + 1 + 1, 0, none⟩ (.int .i64 n)).setCell ⟨SB + 1 + 1, 1, none⟩ (.slice na nm nc) = W := ⟨_, rfl⟩
 have f9 : Fr0 (fun k => k = SB + 1 + 1) (w9) W9 := by rw [← hW9]; exact ((Fr0.refl (fun k => k = SB + 1 + 1) (w9)).setCell (fun _ => rfl) _).setCell (fun _ => rfl) _
 have hb9 : W9.heap[SB + 1 + 1]? = some (.cells #[.int .i64 n, .slice na nm nc] 50 (0, 0)) := by rw [← hW9]; exact heap_set_cell (heap_set_cell HRB.out _) _
 rw [hW9]
 refine hK.out _ _ (hHeld.trans f9) (fun hS => ?_)
 clear hK K hW9 t0 t1 u0 u1
 try simp only [pUt, pUn, sEt, sEz, sEs]
 refine tkn (i := 16) (v := .bool true) (fun W' hSW => ?_) ?_
 ·obtain ⟨⟨s0, s1⟩, ⟨n0, n1⟩, a0, a1, a2, a3, a4, a5, a6, a7⟩ := HY.out W' hSW
  first | (go_simp; done) | exact rfl | (go_simp; rfl) | (go_simp; omega)
 try simp only [pUt, pUn, sEt, sEz, sEs]
 refine wpAnyH_done (by kernel_rfl) ?_ _
 have f79 : Fr0 (fun k => k = SB + 1 + 1) W7 W9 := hHeld.trans f9
 have r0 := cells_in hb9 0
 have r1 := cells_in hb9 1
 simp at r0 r1
 have HQ9 := Lib.hid (HQ7.out.fr0 f79 (fun k hk e => by
  subst e
  rcases hk with hk | hk
  ·have := Hft.out _ hk; omega
  ·have := hk.1; have := (Array.getElem?_eq_some_iff.1 HKv.out).1; omega))
 have F79 := Lib.hid f79
 clear f79 f9 hHeld h9 hS HY HR1 HR2
 go_wp2_with fail
 have hgr := HGR.out
 have hlt5 := HQ5.out.lt
 have hcr := HR.out.2.2
 have hcase : ∀ g o s, (na : Option Addr) = some ⟨g, o, s⟩ → g < (W9).heap.size ∧ g ≠ SB + 1 + 1 ∧ ¬ (qgrow ft V w5) g := fun g o s e => by
  have h2 := F79.out.size
  rcases HNB.out g o s e with ⟨o', s', e'⟩ | h1
  ·obtain ⟨h3, h4⟩ := hcr g o' s' e'
   have := HSB.out
   have := F7.out.size
   refine ⟨by omega, by omega, fun hk => ?_⟩
   rcases hgr g hk with h5 | h5
   ·exact h3 h5
   ·omega
  ·have := HKv5.out
   refine ⟨by omega, by omega, fun hk => ?_⟩
   have := hlt5 g hk
   omega
 refine bodyPost_ret (v := .tuple #[.pointer (some ⟨qb, 0, none⟩), .agg #[.int .i64 n, .slice na nm nc], .bool true]) (by simp [results, Tryz.results20, go_sem, r0, r1]) rfl ⟨qb, T + 1, E', qgrow ft V w5, na, nc, by rw [Hnm.out], HQ9.out, by omega, hgr, ⟨HNE.out.fr0 F79.out (fun g o s e => (hcase g o s e).2.1), by rw [Hnm.out]; exact hnc, fun g o s e => ⟨(hcase g o s e).2.2, (hcase g o s e).1⟩⟩, F7.out.trans' F79.out (fun k hk e => by have := HSB.out; omega), fun g o s e => (HNB.out g o s e).imp id (fun h => by have := HSB.out; have := HKv5.out; omega)⟩
set_option maxRecDepth 100000 in
set_option maxHeartbeats 4000000 in
theorem do_9 {w : World} {qb n T m rc lk lc : Nat} {E : List Ev} {ft : Nat → Prop} {ra la : Option Addr} {kd t : Int} {x : Ev} (h : QIs w qb n T E ft) (hT : T ≤ 1000000) (hr : RsK w n E ra rc ft) (hm : E.length = m) (hkd : 0 ≤ kd ∧ kd < 256)
  (hk : kd % 10 = 9) (ht : t ≠ 0) :
  Calls Tryz.prog 20 #[.pointer (some ⟨qb, 0, none⟩), .agg #[.int .i64 n, .slice ra m rc], actV kd x la lk lc t] w (DoPost n T w ft ra) := by
 have H := Lib.hid h
 have HR := Lib.hid hr
 have Hm := Lib.hid hm
 have hle := h.le
 have hm256 : m ≤ 256 := by omega
 unfold actV
 clear h hr hle hm
 go_enter Tryz.func20, Tryz.ntmps20
 go_wp2_with fail
 have hkt : kd.tmod 10 = 9 := by rw [Int.tmod_eq_emod_of_nonneg hkd.1]; exact hk
 clear hk
 obtain ⟨SB, hSB⟩ : ∃ B, w.heap.size = B := ⟨_, rfl⟩
 obtain ⟨W1, hW1⟩ : ∃ W, w.alloc (.cells #[.int .i64 n, .slice ra m rc] 50) = W := ⟨_, rfl⟩
 have hs1 : W1.heap[SB]? = some (.cells #[.int .i64 n, .slice ra m rc] 50 (0, 0)) := by rw [← hW1, ← hSB]; exact World.alloc_heap_new w _
 have f1 : Fr0 none' w W1 := by rw [← hW1]; exact (Fr0.refl _ _).alloc _
 have z1 : W1.heap.size = SB + 1 := by rw [← hW1, World.size_alloc, hSB]
 rw [hW1]
 try rw [hSB]
 obtain ⟨W2, hW2⟩ : ∃ W, W1.alloc (.cells #[.int .u8 kd, .int .i64 x.key.time, .int .i64 x.key.source, .int .i64 x.key.seq, .int .i64 x.to, .int .i64 x.value, .slice la lk lc, .int .i64 t] 32) = W := ⟨_, rfl⟩
 have f2 : Fr0 none' W1 W2 := by rw [← hW2]; exact (Fr0.refl _ _).alloc _
 have hx2 : W2.heap[SB + 1]? = some (.cells #[.int .u8 kd, .int .i64 x.key.time, .int .i64 x.key.source, .int .i64 x.key.seq, .int .i64 x.to, .int .i64 x.value, .slice la lk lc, .int .i64 t] 32 (0, 0)) := by rw [← hW2, ← z1]; exact World.alloc_heap_new W1 _
 have z2 : W2.heap.size = SB + 1 + 1 := by rw [← hW2, World.size_alloc, z1]
 rw [hW2]
 obtain ⟨W3, hW3⟩ : ∃ W, W2.alloc (.cells #[.int .i64 0, .slice none 0 0] 50) = W := ⟨_, rfl⟩
 have f3 : Fr0 none' W2 W3 := by rw [← hW3]; exact (Fr0.refl _ _).alloc _
 have HRB := Lib.hid (show W3.heap[SB + 1 + 1]? = some (.cells #[.int .i64 0, .slice none 0 0] 50 (0, 0)) by rw [← hW3, ← z2]; exact World.alloc_heap_new W2 _)
 have HA := Lib.hid ((f3.block (SB + 1) (Array.getElem?_eq_some_iff.1 hx2).1 id).trans hx2)
 have HS := Lib.hid (((f2.trans f3).block SB (Array.getElem?_eq_some_iff.1 hs1).1 id).trans hs1)
 have HF := Lib.hid ((f1.trans f2).trans f3)
 have HSB := Lib.hid hSB
 have z3 : W3.heap.size = SB + 1 + 1 + 1 := by rw [← hW3, World.size_alloc, z2]
 have Hz3 := Lib.hid z3
 rw [hW3]
 clear hW1 hSB hs1 f1 hW2 f2 f3 hW3 z1 z2 hx2 z3
 have HZ := Lib.hid (fun (W' : World) (hf : Fr0 none' W3 W') => (show W'.cell? ⟨SB + 1, 0, none⟩ = some (.int .u8 kd) ∧ W'.cell? ⟨SB + 1, 1, none⟩ = some (.int .i64 x.key.time) ∧ W'.cell? ⟨SB + 1, 2, none⟩ = some (.int .i64 x.key.source) ∧ W'.cell? ⟨SB + 1, 3, none⟩ = some (.int .i64 x.key.seq) ∧ W'.cell? ⟨SB + 1, 4, none⟩ = some (.int .i64 x.to) ∧ W'.cell? ⟨SB + 1, 5, none⟩ = some (.int .i64 x.value) ∧ W'.cell? ⟨SB + 1, 6, none⟩ = some (.slice la lk lc) ∧ W'.cell? ⟨SB + 1, 7, none⟩ = some (.int .i64 t) from by
  have h1 := (hf.block (SB + 1) (Array.getElem?_eq_some_iff.1 HA.out).1 id).trans HA.out
  refine ⟨?_, ?_, ?_, ?_, ?_, ?_, ?_, ?_⟩ <;> (rw [cells_in h1]; rfl)))
 refine wp_region_held_drew (S := fun W' => Fr0 none' W3 W') (by kernel_rfl) ((Fr0.refl _ W3).drew) (fun hHeld => ?_)
 refine tkn (i := 0) (v := .pointer (some ⟨SB + 1, 0, none⟩)) (fun W' hSW => ?_) ?_
 ·obtain ⟨a0, a1, a2, a3, a4, a5, a6, a7⟩ := HZ.out W' hSW
  first | (go_simp; done) | exact rfl | (go_simp; rfl) | (go_simp; omega)
 try simp only [pUt, pUn, sEt, sEz, sEs]
 refine tkn (i := 1) (v := .int .u8 kd) (fun W' hSW => ?_) ?_
 ·obtain ⟨a0, a1, a2, a3, a4, a5, a6, a7⟩ := HZ.out W' hSW
  first | (go_simp; done) | exact rfl | (go_simp; rfl) | (go_simp; omega)
 try simp only [pUt, pUn, sEt, sEz, sEs]
 refine tkn (i := 2) (v := .int .u8 9) (fun W' hSW => ?_) ?_
 ·obtain ⟨a0, a1, a2, a3, a4, a5, a6, a7⟩ := HZ.out W' hSW
  first | (go_simp; done) | exact rfl | (go_simp; rfl) | (go_simp; omega)
 try simp only [pUt, pUn, sEt, sEz, sEs]
 refine tkn (i := 3) (v := .pointer (some ⟨SB + 1, 1, none⟩)) (fun W' hSW => ?_) ?_
 ·obtain ⟨a0, a1, a2, a3, a4, a5, a6, a7⟩ := HZ.out W' hSW
  first | (go_simp; done) | exact rfl | (go_simp; rfl) | (go_simp; omega)
 try simp only [pUt, pUn, sEt, sEz, sEs]
 refine tkn (i := 4) (v := .pointer (some ⟨SB + 1, 1, none⟩)) (fun W' hSW => ?_) ?_
 ·obtain ⟨a0, a1, a2, a3, a4, a5, a6, a7⟩ := HZ.out W' hSW
  first | (go_simp; done) | exact rfl | (go_simp; rfl) | (go_simp; omega)
 try simp only [pUt, pUn, sEt, sEz, sEs]
 refine tkn (i := 5) (v := .agg #[.int .i64 x.key.time, .int .i64 x.key.source, .int .i64 x.key.seq]) (fun W' hSW => ?_) ?_
 ·obtain ⟨a0, a1, a2, a3, a4, a5, a6, a7⟩ := HZ.out W' hSW
  first | (go_simp; done) | exact rfl | (go_simp; rfl) | (go_simp; omega)
 try simp only [pUt, pUn, sEt, sEz, sEs]
 refine take_call (i := 6) rfl (by kernel_rfl) (by kernel_rfl) (fun K hK => ?_)
 go_simp
 rw [Hz3.out]
 obtain ⟨V1, hV1⟩ : ∃ W, W3.alloc (.cells #[.int .i64 0, .int .i64 0, .int .i64 0] 26) = W := ⟨_, rfl⟩
 have fV : Fr0 none' W3 V1 := by rw [← hV1]; exact (Fr0.refl _ _).alloc _
 have hk1 : V1.heap[SB + 1 + 1 + 1]? = some (.cells #[.int .i64 0, .int .i64 0, .int .i64 0] 26 (0, 0)) := by rw [← hV1, ← Hz3.out]; exact World.alloc_heap_new W3 _
 rw [hV1]
 refine hK.out _ _ fV.drew (fun hS => ?_)
 clear hK K hV1 hHeld
 try simp only [pUt, pUn, sEt, sEz, sEs]
 refine tkn (i := 7) (v := .int .u8 9) (fun W' hSW => ?_) ?_
 ·obtain ⟨a0, a1, a2, a3, a4, a5, a6, a7⟩ := HZ.out W' hSW
  first | (go_simp; done) | exact rfl | (go_simp; rfl) | (go_simp; omega)
 try simp only [pUt, pUn, sEt, sEz, sEs]
 refine take_call (i := 8) rfl (by kernel_rfl) (by kernel_rfl) (fun K hK => ?_)
 have t0 := thaw_in hk1 0
 have t1 := thaw_in hk1 1
 have t2 := thaw_in hk1 2
 have u0 := cells_in hk1 0
 have u1 := cells_in hk1 1
 have u2 := cells_in hk1 2
 simp at u0 u1 u2
 go_simp
 obtain ⟨V2, hV2⟩ : ∃ W, ((V1.setCell ⟨SB + 1 + 1 + 1, 0, none⟩ (.int .i64 x.key.time)).setCell ⟨SB + 1 + 1 + 1, 1, none⟩ (.int .i64 x.key.source)).setCell ⟨SB + 1 + 1 + 1, 2, none⟩ (.int .i64 x.key.seq) = W := ⟨_, rfl⟩
 have hg3 : SB + 1 + 1 + 1 < W3.heap.size → none' (SB + 1 + 1 + 1) := fun e => by have := Hz3.out; omega
 have fV2 : Fr0 none' W3 V2 := by rw [← hV2]; exact ((fV.setCell hg3 _).setCell hg3 _).setCell hg3 _
 have hk2 : V2.heap[SB + 1 + 1 + 1]? = some (.cells #[.int .i64 x.key.time, .int .i64 x.key.source, .int .i64 x.key.seq] 26 (0, 0)) := by rw [← hV2]; exact heap_set_cell (heap_set_cell (heap_set_cell hk1 _) _) _
 rw [hV2]
 refine hK.out _ _ fV2.drew (fun hS => ?_)
 clear hK K hV2 t0 t1 t2 u0 u1 u2 hg3 fV hk1
 try simp only [pUt, pUn, sEt, sEz, sEs]
 refine wpAnyH_done (by kernel_rfl) ?_ _
 obtain ⟨V, hV⟩ : ∃ W, V2.drew = W := ⟨_, rfl⟩
 have fV : Fr0 none' W3 V := by rw [← hV]; exact fV2.drew
 have HK := Lib.hid (show V.heap[SB + 1 + 1 + 1]? = some (.cells #[.int .i64 x.key.time, .int .i64 x.key.source, .int .i64 x.key.seq] 26 (0, 0)) by rw [← hV]; exact hk2)
 have HRB := Lib.hid ((fV.block (SB + 1 + 1) (Array.getElem?_eq_some_iff.1 HRB.out).1 id).trans HRB.out)
 have HA := Lib.hid ((fV.block (SB + 1) (Array.getElem?_eq_some_iff.1 HA.out).1 id).trans HA.out)
 have HS := Lib.hid ((fV.block SB (Array.getElem?_eq_some_iff.1 HS.out).1 id).trans HS.out)
 have HF := Lib.hid (HF.out.trans fV)
 rw [hV]
 clear hV hk2 fV2 fV HZ Hz3 hS
 clear hkt
 have d9 : (t == 0) = false := beq_eq_false_iff_ne.2 ht
 clear ht
 have a0 := cells_in HA.out 0
 have a1 := cells_in HA.out 1
 have a2 := cells_in HA.out 2
 have a3 := cells_in HA.out 3
 have a4 := cells_in HA.out 4
 have a5 := cells_in HA.out 5
 have a6 := cells_in HA.out 6
 have a7 := cells_in HA.out 7
 have s0 := cells_in HS.out 0
 have s1 := cells_in HS.out 1
 have k0 := cells_in HK.out 0
 have k1 := cells_in HK.out 1
 have k2 := cells_in HK.out 2
 simp at a0 a1 a2 a3 a4 a5 a6 a7 s0 s1 k0 k1 k2
 go_wp2_with fail
 have HKv := HK
 have Hft := Lib.hid (show ∀ k, ft k → k < SB from fun k hk => by have := H.out.lt k hk; have := HSB.out; omega)
 have HP := (H.out.later HF.out).put1 x (by omega)
 obtain ⟨c, hc⟩ : ∃ c, (allV n E [x]).2 = c := ⟨_, rfl⟩
 obtain ⟨E', hE'⟩ : ∃ E', allE n E [x] = E' := ⟨_, rfl⟩
 rw [hc, hE'] at HP
 have Hc := Lib.hid hc
 have HE' := Lib.hid hE'
 unfold evV at HP
 refine HP.mono ?_
 rintro e w5 ⟨rfl, hq5, hf5⟩
 have HQ5 := Lib.hid hq5
 clear a0 a1 a2 a3 a4 a5 a6 a7 s0 s1 k0 k1 k2
 have HK := Lib.hid ((hf5.block (SB + 1 + 1 + 1) (Array.getElem?_eq_some_iff.1 HK.out).1 (fun h => by have := Hft.out _ h; omega)).trans HK.out)
 have HRB := Lib.hid ((hf5.block (SB + 1 + 1) (Array.getElem?_eq_some_iff.1 HRB.out).1 (fun h => by have := Hft.out _ h; omega)).trans HRB.out)
 have HA := Lib.hid ((hf5.block (SB + 1) (Array.getElem?_eq_some_iff.1 HA.out).1 (fun h => by have := Hft.out _ h; omega)).trans HA.out)
 have HS := Lib.hid ((hf5.block SB (Array.getElem?_eq_some_iff.1 HS.out).1 (fun h => by have := Hft.out _ h; omega)).trans HS.out)
 have F5 := Lib.hid (show Fr0 ft w w5 from (HF.out.mono (fun _ _ h => h.elim)).trans hf5)
 have HGR := Lib.hid (show ∀ k, qgrow ft V w5 k → ft k ∨ w.heap.size ≤ k from fun k hk => hk.imp id (fun h => Nat.le_trans HF.out.size h.1))
 have HKv5 := Lib.hid (show SB + 1 + 1 + 1 < w5.heap.size from (Array.getElem?_eq_some_iff.1 HK.out).1)
 have HVs := Lib.hid (show w.heap.size ≤ V.heap.size ∧ V.heap.size ≤ w5.heap.size from ⟨HF.out.size, hf5.size⟩)
 have HRE := Lib.hid (HR.out.1.fr0 F5.out (fun g o s e => (HR.out.2.2 g o s e).1))
 clear HP hq5 hf5 hc hE'
 have a0 := cells_in HA.out 0
 have a1 := cells_in HA.out 1
 have a2 := cells_in HA.out 2
 have a3 := cells_in HA.out 3
 have a4 := cells_in HA.out 4
 have a5 := cells_in HA.out 5
 have a6 := cells_in HA.out 6
 have a7 := cells_in HA.out 7
 have s0 := cells_in HS.out 0
 have s1 := cells_in HS.out 1
 have k0 := cells_in HK.out 0
 have k1 := cells_in HK.out 1
 have k2 := cells_in HK.out 2
 simp at a0 a1 a2 a3 a4 a5 a6 a7 s0 s1 k0 k1 k2
 go_wp2_with fail
 have hPr := rPut_any (n := n) E HRE.out Hm.out (by omega) (by have := HR.out.2.1; rw [Hm.out] at this; exact this) (by have := H.out.le.1; rw [Hm.out] at this; exact this) H.out.le.2 x
 rw [Hc.out, HE'.out] at hPr
 unfold evV at hPr
 refine hPr.mono ?_
 rintro e w6 ⟨v, rfl, hA, hf⟩
 obtain ⟨na, nc, rfl, hnc, hne, hnb⟩ := hA
 obtain ⟨nm, hnm⟩ : ∃ nm, E'.length = nm := ⟨_, rfl⟩
 rw [hnm] at hnc ⊢
 have Hnm := Lib.hid hnm
 have HNE := Lib.hid hne
 have HNB := Lib.hid hnb
 have HQ6 := Lib.hid (HQ5.out.later hf)
 clear a0 a1 a2 a3 a4 a5 a6 a7 s0 s1 k0 k1 k2
 have HK := Lib.hid ((hf.block (SB + 1 + 1 + 1) (Array.getElem?_eq_some_iff.1 HK.out).1 id).trans HK.out)
 have HRB := Lib.hid ((hf.block (SB + 1 + 1) (Array.getElem?_eq_some_iff.1 HRB.out).1 id).trans HRB.out)
 have HA := Lib.hid ((hf.block (SB + 1) (Array.getElem?_eq_some_iff.1 HA.out).1 id).trans HA.out)
 have HS := Lib.hid ((hf.block SB (Array.getElem?_eq_some_iff.1 HS.out).1 id).trans HS.out)
 have F6 := Lib.hid (F5.out.trans (hf.mono (fun _ _ h => h.elim)))
 clear hPr hf hnm hne hnb
 have HKo := HK
 go_wp2_with fail
 obtain ⟨NB, hNB⟩ : ∃ B, (w6).heap.size = B := ⟨_, rfl⟩
 obtain ⟨W7, hW7⟩ : ∃ W, (w6).alloc (.cells #[.int .i64 n, .slice na nm nc] 50) = W := ⟨_, rfl⟩
 have f7 : Fr0 none' (w6) W7 := by rw [← hW7]; exact (Fr0.refl _ _).alloc _
 have HN := Lib.hid (show W7.heap[NB]? = some (.cells #[.int .i64 n, .slice na nm nc] 50 (0, 0)) by rw [← hW7, ← hNB]; exact World.alloc_heap_new _ _)
 have HK := Lib.hid ((f7.block (SB + 1 + 1 + 1) (Array.getElem?_eq_some_iff.1 HK.out).1 id).trans HK.out)
 have HRB := Lib.hid ((f7.block (SB + 1 + 1) (Array.getElem?_eq_some_iff.1 HRB.out).1 id).trans HRB.out)
 have HA := Lib.hid ((f7.block (SB + 1) (Array.getElem?_eq_some_iff.1 HA.out).1 id).trans HA.out)
 have HS := Lib.hid ((f7.block SB (Array.getElem?_eq_some_iff.1 HS.out).1 id).trans HS.out)
 have HQ7 := Lib.hid (HQ6.out.later f7)
 have F7 := Lib.hid (F6.out.trans (f7.mono (fun _ _ h => h.elim)))
 have HNE := Lib.hid (HNE.out.later f7)
 have HNB := Lib.hid (show ∀ g o s, (na : Option Addr) = some ⟨g, o, s⟩ → (∃ o' s', ra = some ⟨g, o', s'⟩) ∨ (w5.heap.size ≤ g ∧ g < W7.heap.size) from fun g o s e => (HNB.out g o s e).imp id (fun h => ⟨h.1, Nat.lt_of_lt_of_le h.2 f7.size⟩))
 have HNr := Lib.hid (show SB + 1 + 1 ≠ NB ∧ SB + 1 ≠ NB ∧ SB ≠ NB by have h9 := (Array.getElem?_eq_some_iff.1 HK.out).1; rw [← hNB]; have h8 := (Array.getElem?_eq_some_iff.1 HKo.out).1; omega)
 have HN7 := Lib.hid f7
 rw [hW7]
 try rw [hNB]
 clear hW7 hNB f7
 have HY := Lib.hid (fun (W' : World) (hf : Fr0 (fun k => k = SB + 1 + 1) W7 W') => (show (W'.cell? ⟨SB, 0, none⟩ = some (.int .i64 n) ∧ W'.cell? ⟨SB, 1, none⟩ = some (.slice ra m rc)) ∧ (W'.cell? ⟨NB, 0, none⟩ = some (.int .i64 n) ∧ W'.cell? ⟨NB, 1, none⟩ = some (.slice na nm nc)) ∧ W'.cell? ⟨SB + 1, 0, none⟩ = some (.int .u8 kd) ∧ W'.cell? ⟨SB + 1, 1, none⟩ = some (.int .i64 x.key.time) ∧ W'.cell? ⟨SB + 1, 2, none⟩ = some (.int .i64 x.key.source) ∧ W'.cell? ⟨SB + 1, 3, none⟩ = some (.int .i64 x.key.seq) ∧ W'.cell? ⟨SB + 1, 4, none⟩ = some (.int .i64 x.to) ∧ W'.cell? ⟨SB + 1, 5, none⟩ = some (.int .i64 x.value) ∧ W'.cell? ⟨SB + 1, 6, none⟩ = some (.slice la lk lc) ∧ W'.cell? ⟨SB + 1, 7, none⟩ = some (.int .i64 t) from by
  have hn := HNr.out
  have h1 := (hf.block (SB + 1) (Array.getElem?_eq_some_iff.1 HA.out).1 (fun e => by omega)).trans HA.out
  have h2 := (hf.block SB (Array.getElem?_eq_some_iff.1 HS.out).1 (fun e => by omega)).trans HS.out
  have h3 := (hf.block NB (Array.getElem?_eq_some_iff.1 HN.out).1 (fun e => hn.1 e.symm)).trans HN.out
  refine ⟨⟨?_, ?_⟩, ⟨?_, ?_⟩, ?_, ?_, ?_, ?_, ?_, ?_, ?_, ?_⟩
  ·rw [cells_in h2]; rfl
  ·rw [cells_in h2]; rfl
  ·rw [cells_in h3]; rfl
  ·rw [cells_in h3]; rfl
  all_goals (rw [cells_in h1]; rfl)))
 obtain ⟨b, hb⟩ : ∃ b, decide (RightE x) = b := ⟨_, rfl⟩
 have HR1 := Lib.hid (fun W => QRight_is x W)
 have HR2 := Lib.hid (fun W => rRightE_any x W)
 unfold evV at HR1 HR2
 rw [hb] at HR1 HR2
 clear hb
 refine wp_region_held_drew (S := fun W' => Fr0 (fun k => k = SB + 1 + 1) W7 W') (by kernel_rfl) ((Fr0.refl _ W7).drew) (fun hHeld => ?_)
 refine tkn (i := 0) (v := .pointer (some ⟨qb, 0, none⟩)) (fun W' hSW => ?_) ?_
 ·obtain ⟨⟨s0, s1⟩, ⟨n0, n1⟩, a0, a1, a2, a3, a4, a5, a6, a7⟩ := HY.out W' hSW
  first | (go_simp; done) | exact rfl | (go_simp; rfl) | (go_simp; omega)
 try simp only [pUt, pUn, sEt, sEz, sEs]
 refine tkn (i := 1) (v := .agg #[.int .i64 n, .slice na nm nc]) (fun W' hSW => ?_) ?_
 ·obtain ⟨⟨s0, s1⟩, ⟨n0, n1⟩, a0, a1, a2, a3, a4, a5, a6, a7⟩ := HY.out W' hSW
  first | (go_simp; done) | exact rfl | (go_simp; rfl) | (go_simp; omega)
 try simp only [pUt, pUn, sEt, sEz, sEs]
 refine tkn (i := 2) (v := .int .i64 c) (fun W' hSW => ?_) ?_
 ·obtain ⟨⟨s0, s1⟩, ⟨n0, n1⟩, a0, a1, a2, a3, a4, a5, a6, a7⟩ := HY.out W' hSW
  first | (go_simp; done) | exact rfl | (go_simp; rfl) | (go_simp; omega)
 try simp only [pUt, pUn, sEt, sEz, sEs]
 refine tkn (i := 3) (v := .int .i64 c) (fun W' hSW => ?_) ?_
 ·obtain ⟨⟨s0, s1⟩, ⟨n0, n1⟩, a0, a1, a2, a3, a4, a5, a6, a7⟩ := HY.out W' hSW
  first | (go_simp; done) | exact rfl | (go_simp; rfl) | (go_simp; omega)
 try simp only [pUt, pUn, sEt, sEz, sEs]
 refine tkn (i := 4) (v := .bool true) (fun W' hSW => ?_) ?_
 ·obtain ⟨⟨s0, s1⟩, ⟨n0, n1⟩, a0, a1, a2, a3, a4, a5, a6, a7⟩ := HY.out W' hSW
  first | (go_simp; done) | exact rfl | (go_simp; rfl) | (go_simp; omega)
 try simp only [pUt, pUn, sEt, sEz, sEs]
 refine tkn (i := 5) (v := .bool true) (fun W' hSW => ?_) ?_
 ·obtain ⟨⟨s0, s1⟩, ⟨n0, n1⟩, a0, a1, a2, a3, a4, a5, a6, a7⟩ := HY.out W' hSW
  first | (go_simp; done) | exact rfl | (go_simp; rfl) | (go_simp; omega)
 try simp only [pUt, pUn, sEt, sEz, sEs]
 refine tkn (i := 6) (v := .pointer (some ⟨SB + 1, 1, none⟩)) (fun W' hSW => ?_) ?_
 ·obtain ⟨⟨s0, s1⟩, ⟨n0, n1⟩, a0, a1, a2, a3, a4, a5, a6, a7⟩ := HY.out W' hSW
  first | (go_simp; done) | exact rfl | (go_simp; rfl) | (go_simp; omega)
 try simp only [pUt, pUn, sEt, sEz, sEs]
 refine tkn (i := 7) (v := .agg #[.int .i64 x.key.time, .int .i64 x.key.source, .int .i64 x.key.seq, .int .i64 x.to, .int .i64 x.value]) (fun W' hSW => ?_) ?_
 ·obtain ⟨⟨s0, s1⟩, ⟨n0, n1⟩, a0, a1, a2, a3, a4, a5, a6, a7⟩ := HY.out W' hSW
  first | (go_simp; done) | exact rfl | (go_simp; rfl) | (go_simp; omega)
 try simp only [pUt, pUn, sEt, sEz, sEs]
 refine tkn (i := 9) (v := .pointer (some ⟨SB + 1, 1, none⟩)) (fun W' hSW => ?_) ?_
 ·obtain ⟨⟨s0, s1⟩, ⟨n0, n1⟩, a0, a1, a2, a3, a4, a5, a6, a7⟩ := HY.out W' hSW
  first | (go_simp; done) | exact rfl | (go_simp; rfl) | (go_simp; omega)
 try simp only [pUt, pUn, sEt, sEz, sEs]
 refine tkn (i := 10) (v := .agg #[.int .i64 x.key.time, .int .i64 x.key.source, .int .i64 x.key.seq, .int .i64 x.to, .int .i64 x.value]) (fun W' hSW => ?_) ?_
 ·obtain ⟨⟨s0, s1⟩, ⟨n0, n1⟩, a0, a1, a2, a3, a4, a5, a6, a7⟩ := HY.out W' hSW
  first | (go_simp; done) | exact rfl | (go_simp; rfl) | (go_simp; omega)
 try simp only [pUt, pUn, sEt, sEz, sEs]
 have hN : Fr0 none' W7 W7.drew := (Fr0.refl none' W7).drew
 refine take_call (i := 8) rfl (by kernel_rfl) (by kernel_rfl) (fun K hK => ?_)
 go_simp
 refine (HR1.out _).mono ?_
 rintro e w8 ⟨rfl, hf⟩
 have h8 : Fr0 none' W7 w8 := hN.trans hf
 clear hf hN
 go_wp2_with fail
 refine hK.out _ _ (h8.mono (fun _ _ h => h.elim)) (fun hS => ?_)
 clear hK K
 try simp only [pUt, pUn, sEt, sEz, sEs]
 refine take_call (i := 11) rfl (by kernel_rfl) (by kernel_rfl) (fun K hK => ?_)
 go_simp
 refine (HR2.out _).mono ?_
 rintro e w9 ⟨rfl, hf⟩
 have h9 : Fr0 none' W7 w9 := h8.trans hf
 clear hf h8
 go_wp2_with fail
 refine hK.out _ _ (h9.mono (fun _ _ h => h.elim)) (fun hS => ?_)
 clear hK K
 try simp only [pUt, pUn, sEt, sEz, sEs]
 clear hHeld
 have hHeld : Fr0 (fun k => k = SB + 1 + 1) W7 w9 := h9.mono (fun _ _ h => h.elim)
 refine tkn (i := 12) (v := .bool true) (fun W' hSW => ?_) ?_
 ·obtain ⟨⟨s0, s1⟩, ⟨n0, n1⟩, a0, a1, a2, a3, a4, a5, a6, a7⟩ := HY.out W' hSW
  first | (go_simp; done) | exact rfl | (go_simp; rfl) | (go_simp; omega)
 try simp only [pUt, pUn, sEt, sEz, sEs]
 refine tkn (i := 13) (v := .bool true) (fun W' hSW => ?_) ?_
 ·obtain ⟨⟨s0, s1⟩, ⟨n0, n1⟩, a0, a1, a2, a3, a4, a5, a6, a7⟩ := HY.out W' hSW
  first | (go_simp; done) | exact rfl | (go_simp; rfl) | (go_simp; omega)
 try simp only [pUt, pUn, sEt, sEz, sEs]
 refine tkn (i := 14) (v := .pointer (some ⟨qb, 0, none⟩)) (fun W' hSW => ?_) ?_
 ·obtain ⟨⟨s0, s1⟩, ⟨n0, n1⟩, a0, a1, a2, a3, a4, a5, a6, a7⟩ := HY.out W' hSW
  first | (go_simp; done) | exact rfl | (go_simp; rfl) | (go_simp; omega)
 try simp only [pUt, pUn, sEt, sEz, sEs]
 have HK := Lib.hid ((h9.block (SB + 1 + 1 + 1) (Array.getElem?_eq_some_iff.1 HK.out).1 id).trans HK.out)
 have HRB := Lib.hid ((h9.block (SB + 1 + 1) (Array.getElem?_eq_some_iff.1 HRB.out).1 id).trans HRB.out)
 have HA := Lib.hid ((h9.block (SB + 1) (Array.getElem?_eq_some_iff.1 HA.out).1 id).trans HA.out)
 have HS := Lib.hid ((h9.block SB (Array.getElem?_eq_some_iff.1 HS.out).1 id).trans HS.out)
 have t0 := thaw_in HRB.out 0
 have t1 := thaw_in HRB.out 1
 have u0 := cells_in HRB.out 0
 have u1 := cells_in HRB.out 1
 simp at u0 u1
 refine take_call (i := 15) rfl (by kernel_rfl) (by kernel_rfl) (fun K hK => ?_)
 go_simp
 obtain ⟨W9, hW9⟩ : ∃ W, ((w9).setCell ⟨SB + 1 + 1, 0, none⟩ (.int .i64 n)).setCell ⟨SB + 1 + 1, 1, none⟩ (.slice na nm nc) = W := ⟨_, rfl⟩
 have f9 : Fr0 (fun k => k = SB + 1 + 1) (w9) W9 := by rw [← hW9]; exact ((Fr0.refl (fun k => k = SB + 1 + 1) (w9)).setCell (fun _ => rfl) _).setCell (fun _ => rfl) _
 have hb9 : W9.heap[SB + 1 + 1]? = some (.cells #[.int .i64 n, .slice na nm nc] 50 (0, 0)) := by rw [← hW9]; exact heap_set_cell (heap_set_cell HRB.out _) _
 rw [hW9]
 refine hK.out _ _ (hHeld.trans f9) (fun hS => ?_)
 clear hK K hW9 t0 t1 u0 u1
 try simp only [pUt, pUn, sEt, sEz, sEs]
 refine tkn (i := 16) (v := .bool true) (fun W' hSW => ?_) ?_
 ·obtain ⟨⟨s0, s1⟩, ⟨n0, n1⟩, a0, a1, a2, a3, a4, a5, a6, a7⟩ := HY.out W' hSW
  first | (go_simp; done) | exact rfl | (go_simp; rfl) | (go_simp; omega)
 try simp only [pUt, pUn, sEt, sEz, sEs]
 refine wpAnyH_done (by kernel_rfl) ?_ _
 have f79 : Fr0 (fun k => k = SB + 1 + 1) W7 W9 := hHeld.trans f9
 have r0 := cells_in hb9 0
 have r1 := cells_in hb9 1
 simp at r0 r1
 have HQ9 := Lib.hid (HQ7.out.fr0 f79 (fun k hk e => by
  subst e
  rcases hk with hk | hk
  ·have := Hft.out _ hk; omega
  ·have := hk.1; have := (Array.getElem?_eq_some_iff.1 HKv.out).1; omega))
 have F79 := Lib.hid f79
 clear f79 f9 hHeld h9 hS HY HR1 HR2
 go_wp2_with fail
 have hgr := HGR.out
 have hlt5 := HQ5.out.lt
 have hcr := HR.out.2.2
 have hcase : ∀ g o s, (na : Option Addr) = some ⟨g, o, s⟩ → g < (W9).heap.size ∧ g ≠ SB + 1 + 1 ∧ ¬ (qgrow ft V w5) g := fun g o s e => by
  have h2 := F79.out.size
  rcases HNB.out g o s e with ⟨o', s', e'⟩ | h1
  ·obtain ⟨h3, h4⟩ := hcr g o' s' e'
   have := HSB.out
   have := F7.out.size
   refine ⟨by omega, by omega, fun hk => ?_⟩
   rcases hgr g hk with h5 | h5
   ·exact h3 h5
   ·omega
  ·have := HKv5.out
   refine ⟨by omega, by omega, fun hk => ?_⟩
   have := hlt5 g hk
   omega
 refine bodyPost_ret (v := .tuple #[.pointer (some ⟨qb, 0, none⟩), .agg #[.int .i64 n, .slice na nm nc], .bool true]) (by simp [results, Tryz.results20, go_sem, r0, r1]) rfl ⟨qb, T + 1, E', qgrow ft V w5, na, nc, by rw [Hnm.out], HQ9.out, by omega, hgr, ⟨HNE.out.fr0 F79.out (fun g o s e => (hcase g o s e).2.1), by rw [Hnm.out]; exact hnc, fun g o s e => ⟨(hcase g o s e).2.2, (hcase g o s e).1⟩⟩, F7.out.trans' F79.out (fun k hk e => by have := HSB.out; omega), fun g o s e => (HNB.out g o s e).imp id (fun h => by have := HSB.out; have := HKv5.out; omega)⟩
end Go.Proofs.YtmcgipilopfgoaaGreat

/-
  The reference of layer 10: Cancel.
-/
namespace Go.Proofs.YtmcgipilopfgoaaGreat
open Go Go.RowKit
attribute [local go_sem ↓] Go.wp_at_zero Go.wp_at_succ
attribute [local go_sem] Oper.semAt_some wide_fn wide_depth wide_fnR wide_depthR

set_option maxRecDepth 100000 in
set_option maxHeartbeats 2000000 in
theorem rCancel_none {w : World} {a : Option Addr} {m cap : Nat} (c : Int) (E : List Ev) (h : EsIn w a E) (hl : E.length = m) (hm : m ≤ 1000) (hc : m ≤ cap) (p : Int × Int) (hn : findE p E = none) :
  Calls Tryz.prog 50 #[.agg #[.int .i64 c, .slice a m cap], .int .i64 p.1, .int .i64 p.2] w fun e w' => e = .returned (.tuple #[.agg #[.int .i64 c, .slice a m cap], evV ⟨⟨0, 0, 0⟩, 0, 0⟩, .int .i64 6]) ∧ Fr0 none' w w' := by
 have hat : atE p E = -1 := by
  rcases at_find p E with ⟨h1, _⟩ | ⟨k, x, _, _, h2, _⟩
  ·exact h1
  ·rw [hn] at h2; cases h2
 have HE := Lib.hid (fun (W : World) (hf : Fr0 none' w W) => rat_any E (h.later hf) hl (cap := cap) (by omega) p.1 p.2)
 rw [show atE (p.1, p.2) E = -1 from hat] at HE
 clear h hl hat hn
 simp only [evV]
 go_enter Tryz.func50, Tryz.ntmps50
 go_wp2_with fail
 obtain ⟨SB, hSB⟩ : ∃ B, w.heap.size = B := ⟨_, rfl⟩
 obtain ⟨W1, hW1⟩ : ∃ W, w.alloc (.cells #[.int .i64 c, .slice a m cap] 50) = W := ⟨_, rfl⟩
 have HS := Lib.hid (show W1.heap[SB]? = some (.cells #[.int .i64 c, .slice a m cap] 50 (0, 0)) by rw [← hW1, ← hSB]; exact World.alloc_heap_new w _)
 have HF := Lib.hid (show Fr0 none' w W1 by rw [← hW1]; exact (Fr0.refl _ _).alloc _)
 rw [hW1]
 try rw [hSB]
 have HSB := Lib.hid hSB
 have HSz := Lib.hid (show W1.heap.size = SB + 1 by rw [← hW1, World.size_alloc, hSB])
 clear hW1 hSB
 have s0 := cells_in HS.out 0
 have s1 := cells_in HS.out 1
 simp at s0 s1
 go_wp2_with fail
 obtain ⟨W3, hW3⟩ : ∃ W, (W1.alloc (.cells #[.int .i64 0, .slice none 0 0] 50)).alloc (.cells #[.int .i64 0, .int .i64 0, .int .i64 0, .int .i64 0, .int .i64 0] 28) = W := ⟨_, rfl⟩
 have h3 : Fr0 none' W1 W3 := by rw [← hW3]; exact ((Fr0.refl _ _).alloc _).alloc _
 have HR1 := Lib.hid (show W3.heap[SB + 1]? = some (.cells #[.int .i64 0, .slice none 0 0] 50 (0, 0)) by
  rw [← hW3, ← HSz.out]
  exact ((((Fr0.refl none' (W1.alloc (.cells #[.int .i64 0, .slice none 0 0] 50))).alloc _).block W1.heap.size (by rw [World.size_alloc]; omega) id)).trans (World.alloc_heap_new W1 _))
 have HR2 := Lib.hid (show W3.heap[SB + 1 + 1]? = some (.cells #[.int .i64 0, .int .i64 0, .int .i64 0, .int .i64 0, .int .i64 0] 28 (0, 0)) by
  have h7 := World.alloc_heap_new (W1.alloc (.cells #[.int .i64 0, .slice none 0 0] 50)) (.cells #[.int .i64 0, .int .i64 0, .int .i64 0, .int .i64 0, .int .i64 0] 28)
  rw [World.size_alloc, HSz.out] at h7
  rw [← hW3]
  exact h7)
 have HS3 := Lib.hid ((h3.block SB (Array.getElem?_eq_some_iff.1 HS.out).1 id).trans HS.out)
 have HF3 := Lib.hid (HF.out.trans h3)
 rw [hW3]
 clear hW3 h3 s0 s1
 refine (HE.out _ HF3.out).mono ?_
 rintro e w4 ⟨rfl, rfl⟩
 have t0 := thaw_in HR1.out 0
 have t1 := thaw_in HR1.out 1
 have u0 := cells_in HR1.out 0
 have u1 := cells_in HR1.out 1
 have s0 := cells_in HS3.out 0
 have s1 := cells_in HS3.out 1
 have v0 := thaw_in HR2.out 0
 have v1 := thaw_in HR2.out 1
 have v2 := thaw_in HR2.out 2
 have v3 := thaw_in HR2.out 3
 have v4 := thaw_in HR2.out 4
 have e0 := cells_in HR2.out 0
 have e1 := cells_in HR2.out 1
 have e2 := cells_in HR2.out 2
 have e3 := cells_in HR2.out 3
 have e4 := cells_in HR2.out 4
 simp at u0 u1 s0 s1 e0 e1 e2 e3 e4
 go_wp2_with fail
 obtain ⟨W6, hW6⟩ : ∃ W, ((((((W3.setCell ⟨SB + 1, 0, none⟩ (.int .i64 c)).setCell ⟨SB + 1, 1, none⟩ (.slice a m cap)).setCell ⟨SB + 1 + 1, 0, none⟩ (.int .i64 0)).setCell ⟨SB + 1 + 1, 1, none⟩ (.int .i64 0)).setCell ⟨SB + 1 + 1, 2, none⟩ (.int .i64 0)).setCell ⟨SB + 1 + 1, 3, none⟩ (.int .i64 0)).setCell ⟨SB + 1 + 1, 4, none⟩ (.int .i64 0) = W := ⟨_, rfl⟩
 have hg : SB + 1 < w.heap.size → none' (SB + 1) := fun e => by have := HSB.out; omega
 have hg2 : SB + 1 + 1 < w.heap.size → none' (SB + 1 + 1) := fun e => by have := HSB.out; omega
 have f6 : Fr0 none' w W6 := by rw [← hW6]; exact ((((((HF3.out.setCell hg _).setCell hg _).setCell hg2 _).setCell hg2 _).setCell hg2 _).setCell hg2 _).setCell hg2 _
 obtain ⟨W5, hW5⟩ : ∃ W, (W3.setCell ⟨SB + 1, 0, none⟩ (.int .i64 c)).setCell ⟨SB + 1, 1, none⟩ (.slice a m cap) = W := ⟨_, rfl⟩
 have hb5 : W5.heap[SB + 1]? = some (.cells #[.int .i64 c, .slice a m cap] 50 (0, 0)) := by rw [← hW5]; exact heap_set_cell (heap_set_cell HR1.out _) _
 have hc5 : W5.heap[SB + 1 + 1]? = some (.cells #[.int .i64 0, .int .i64 0, .int .i64 0, .int .i64 0, .int .i64 0] 28 (0, 0)) := (Fr0.block (show Fr0 (fun k => k = SB + 1) W3 W5 by rw [← hW5]; exact ((Fr0.refl (fun k => k = SB + 1) W3).setCell (fun _ => rfl) _).setCell (fun _ => rfl) _) (SB + 1 + 1) (Array.getElem?_eq_some_iff.1 HR2.out).1 (fun e => by omega)).trans HR2.out
 rw [hW5] at hW6
 have hb6 : W6.heap[SB + 1]? = some (.cells #[.int .i64 c, .slice a m cap] 50 (0, 0)) := (Fr0.block (show Fr0 (fun k => k = SB + 1 + 1) W5 W6 by rw [← hW6]; exact (((((Fr0.refl (fun k => k = SB + 1 + 1) W5).setCell (fun _ => rfl) _).setCell (fun _ => rfl) _).setCell (fun _ => rfl) _).setCell (fun _ => rfl) _).setCell (fun _ => rfl) _) (SB + 1) (Array.getElem?_eq_some_iff.1 hb5).1 (fun e => by omega)).trans hb5
 have hc6 : W6.heap[SB + 1 + 1]? = some (.cells #[.int .i64 0, .int .i64 0, .int .i64 0, .int .i64 0, .int .i64 0] 28 (0, 0)) := by rw [← hW6]; exact heap_set_cell (heap_set_cell (heap_set_cell (heap_set_cell (heap_set_cell hc5 _) _) _) _) _
 rw [hW5, hW6]
 clear hW6 hW5 hb5 hc5 hg hg2 t0 t1 u0 u1 s0 s1 v0 v1 v2 v3 v4 e0 e1 e2 e3 e4
 have r0 := cells_in hb6 0
 have r1 := cells_in hb6 1
 have e0 := cells_in hc6 0
 have e1 := cells_in hc6 1
 have e2 := cells_in hc6 2
 have e3 := cells_in hc6 3
 have e4 := cells_in hc6 4
 simp at r0 r1 e0 e1 e2 e3 e4
 exact bodyPost_ret (v := .tuple #[.agg #[.int .i64 c, .slice a m cap], .agg #[.int .i64 0, .int .i64 0, .int .i64 0, .int .i64 0, .int .i64 0], .int .i64 6]) (by simp [results, Tryz.results50, go_sem, r0, r1, e0, e1, e2, e3, e4]) rfl ⟨rfl, f6⟩
set_option maxRecDepth 100000 in
set_option maxHeartbeats 2000000 in
theorem rCancel_some {w : World} {a : Option Addr} {m cap k : Nat} (c : Int) (E : List Ev) (h : EsIn w a E) (hl : E.length = m) (hm : m ≤ 1000) (hc : m ≤ cap) (p : Int × Int) (x : Ev) (hk : atE p E = k) (hx : E[k]? = some x) :
  Calls Tryz.prog 50 #[.agg #[.int .i64 c, .slice a m cap], .int .i64 p.1, .int .i64 p.2] w fun e w' => ∃ v, e = .returned (.tuple #[v, evV x, .int .i64 0]) ∧ RAt w' a w.heap.size c (E.take k ++ E.drop (k + 1)) v ∧ Fr0 none' w w' := by
 obtain ⟨i0, hi, hz0, hz1, hz2⟩ := info_parts info_event0
 have H := Lib.hid h
 have Hl := Lib.hid hl
 have Hx := Lib.hid hx
 have HE := Lib.hid (fun (W : World) (hf : Fr0 none' w W) => rat_any E (h.later hf) hl (cap := cap) (by omega) p.1 p.2)
 rw [show atE (p.1, p.2) E = k from hk] at HE
 have hkm : k < m := by have := (List.getElem?_eq_some_iff.1 hx).1; omega
 clear h hl hk hx
 simp only [evV]
 go_enter Tryz.func50, Tryz.ntmps50
 go_wp2_with fail
 obtain ⟨SB, hSB⟩ : ∃ B, w.heap.size = B := ⟨_, rfl⟩
 obtain ⟨W1, hW1⟩ : ∃ W, w.alloc (.cells #[.int .i64 c, .slice a m cap] 50) = W := ⟨_, rfl⟩
 have HS := Lib.hid (show W1.heap[SB]? = some (.cells #[.int .i64 c, .slice a m cap] 50 (0, 0)) by rw [← hW1, ← hSB]; exact World.alloc_heap_new w _)
 have HF := Lib.hid (show Fr0 none' w W1 by rw [← hW1]; exact (Fr0.refl _ _).alloc _)
 rw [hW1]
 try rw [hSB]
 have HSB := Lib.hid hSB
 have HSz := Lib.hid (show W1.heap.size = SB + 1 by rw [← hW1, World.size_alloc, hSB])
 clear hW1 hSB
 have s0 := cells_in HS.out 0
 have s1 := cells_in HS.out 1
 simp at s0 s1
 go_wp2_with fail
 obtain ⟨W3, hW3⟩ : ∃ W, (W1.alloc (.cells #[.int .i64 0, .slice none 0 0] 50)).alloc (.cells #[.int .i64 0, .int .i64 0, .int .i64 0, .int .i64 0, .int .i64 0] 28) = W := ⟨_, rfl⟩
 have h3 : Fr0 none' W1 W3 := by rw [← hW3]; exact ((Fr0.refl _ _).alloc _).alloc _
 have HR1 := Lib.hid (show W3.heap[SB + 1]? = some (.cells #[.int .i64 0, .slice none 0 0] 50 (0, 0)) by
  rw [← hW3, ← HSz.out]
  exact ((((Fr0.refl none' (W1.alloc (.cells #[.int .i64 0, .slice none 0 0] 50))).alloc _).block W1.heap.size (by rw [World.size_alloc]; omega) id)).trans (World.alloc_heap_new W1 _))
 have HR2 := Lib.hid (show W3.heap[SB + 1 + 1]? = some (.cells #[.int .i64 0, .int .i64 0, .int .i64 0, .int .i64 0, .int .i64 0] 28 (0, 0)) by
  have h7 := World.alloc_heap_new (W1.alloc (.cells #[.int .i64 0, .slice none 0 0] 50)) (.cells #[.int .i64 0, .int .i64 0, .int .i64 0, .int .i64 0, .int .i64 0] 28)
  rw [World.size_alloc, HSz.out] at h7
  rw [← hW3]
  exact h7)
 have HS3 := Lib.hid ((h3.block SB (Array.getElem?_eq_some_iff.1 HS.out).1 id).trans HS.out)
 have HF3 := Lib.hid (HF.out.trans h3)
 rw [hW3]
 clear hW3 h3 s0 s1
 refine (HE.out _ HF3.out).mono ?_
 rintro e w4 ⟨rfl, rfl⟩
 have d1 : decide ((k : Int) < 0) = false := decide_eq_false (by omega)
 go_wp2_with fail
 clear d1
 obtain ⟨g, o, rfl, hat⟩ := H.out k x Hx.out
 have hgl : ∀ b, w.heap.size ≤ b → g ≠ b := fun b hb e => by
  have := World.block_lt_of_cell? _ _ hat.1
  simp only at this
  omega
 have hat3 := hat.later HF3.out
 have HZ := Lib.hid (fun (W' : World) (hf : Fr0 (fun k => k = SB + 1 ∨ k = SB + 1 + 1) W3 W') => (show W'.cell? ⟨SB, 0, none⟩ = some (.int .i64 c) ∧ W'.cell? ⟨SB, 1, none⟩ = some (.slice (some ⟨g, o, none⟩) m cap) ∧ EAt W' g (o + k * 5) x from by
  have h7 := (hf.block SB (Array.getElem?_eq_some_iff.1 HS3.out).1 (fun h => by rcases h with h | h <;> omega)).trans HS3.out
  have s0 := cells_in h7 0
  have s1 := cells_in h7 1
  simp at s0 s1
  exact ⟨s0, s1, hat3.fr0 hf (fun h => by have h8 := HSB.out; rcases h with h | h <;> exact hgl _ (by omega) h)⟩))
 have hE3 : EsIn W3 (some ⟨g, o, none⟩) E := H.out.later HF3.out
 obtain ⟨q, hq⟩ : ∃ q, k + 1 = q := ⟨_, rfl⟩
 have wq : IntKind.i64.wrap ((k : Int) + 1) = (q : Int) := by rw [IntWalk.i64_in _ (by omega)]; omega
 have hdR : (if cap = q then some (⟨g, o, none⟩ : Addr) else some ⟨g, o + q * 5, none⟩) = dR cap q (some ⟨g, o, none⟩) := by
  unfold dR
  rw [Option.map_some, Addr.add_mid]
 have Hq := Lib.hid hq
 have m1 : (0 : Int) ≤ (k : Int) := by omega
 have m2 : (k : Int) ≤ (cap : Int) := by omega
 have m3 : (q : Int) ≤ (m : Int) := by omega
 have m4 : (0 : Int) ≤ (q : Int) := by omega
 have m5 : (m : Int) ≤ (cap : Int) := by omega
 have m6 : (k : Int) < (m : Int) := by omega
 have m7 : (k : Int) ≤ (m : Int) := by omega
 have HE3 := Lib.hid hE3
 have HR3 := Lib.hid (show SB + 1 + 1 < W3.heap.size from (Array.getElem?_eq_some_iff.1 HR2.out).1)
 clear hat hE3 hgl hat3 hq
 refine wp_region_held_drew (S := fun W' => Fr0 (fun k => k = SB + 1 ∨ k = SB + 1 + 1) W3 W') (by kernel_rfl) ((Fr0.refl _ W3).drew) (fun hHeld => ?_)
 refine tkn (i := 0) (v := .pointer (some ⟨SB, 0, none⟩)) (fun W' hSW => ?_) ?_
 ·obtain ⟨s0, s1, b0, b1, b2, b3, b4⟩ := HZ.out W' hSW
  first | (go_simp; done) | exact rfl | (go_simp; rfl) | (go_simp; omega)
 try simp only [pUt, pUn, sEt, sEz, sEs]
 refine tkn (i := 1) (v := .int .i64 c) (fun W' hSW => ?_) ?_
 ·obtain ⟨s0, s1, b0, b1, b2, b3, b4⟩ := HZ.out W' hSW
  first | (go_simp; done) | exact rfl | (go_simp; rfl) | (go_simp; omega)
 try simp only [pUt, pUn, sEt, sEz, sEs]
 refine tkn (i := 3) (v := .pointer (some ⟨SB, 1, none⟩)) (fun W' hSW => ?_) ?_
 ·obtain ⟨s0, s1, b0, b1, b2, b3, b4⟩ := HZ.out W' hSW
  first | (go_simp; done) | exact rfl | (go_simp; rfl) | (go_simp; omega)
 try simp only [pUt, pUn, sEt, sEz, sEs]
 refine tkn (i := 4) (v := .slice (some ⟨g, o, none⟩) m cap) (fun W' hSW => ?_) ?_
 ·obtain ⟨s0, s1, b0, b1, b2, b3, b4⟩ := HZ.out W' hSW
  first | (go_simp; done) | exact rfl | (go_simp; rfl) | (go_simp; omega)
 try simp only [pUt, pUn, sEt, sEz, sEs]
 refine tkn (i := 5) (v := .int .i64 k) (fun W' hSW => ?_) ?_
 ·obtain ⟨s0, s1, b0, b1, b2, b3, b4⟩ := HZ.out W' hSW
  first | (go_simp; done) | exact rfl | (go_simp; rfl) | (go_simp; omega)
 try simp only [pUt, pUn, sEt, sEz, sEs]
 refine tkn (i := 6) (v := .slice (some ⟨g, o, none⟩) k cap) (fun W' hSW => ?_) ?_
 ·obtain ⟨s0, s1, b0, b1, b2, b3, b4⟩ := HZ.out W' hSW
  first | (go_simp; done) | exact rfl | (go_simp; rfl) | (go_simp; omega)
 try simp only [pUt, pUn, sEt, sEz, sEs]
 refine tkn (i := 8) (v := .pointer (some ⟨SB, 1, none⟩)) (fun W' hSW => ?_) ?_
 ·obtain ⟨s0, s1, b0, b1, b2, b3, b4⟩ := HZ.out W' hSW
  first | (go_simp; done) | exact rfl | (go_simp; rfl) | (go_simp; omega)
 try simp only [pUt, pUn, sEt, sEz, sEs]
 refine tkn (i := 9) (v := .slice (some ⟨g, o, none⟩) m cap) (fun W' hSW => ?_) ?_
 ·obtain ⟨s0, s1, b0, b1, b2, b3, b4⟩ := HZ.out W' hSW
  first | (go_simp; done) | exact rfl | (go_simp; rfl) | (go_simp; omega)
 try simp only [pUt, pUn, sEt, sEz, sEs]
 refine tkn (i := 10) (v := .int .i64 k) (fun W' hSW => ?_) ?_
 ·obtain ⟨s0, s1, b0, b1, b2, b3, b4⟩ := HZ.out W' hSW
  first | (go_simp; done) | exact rfl | (go_simp; rfl) | (go_simp; omega)
 try simp only [pUt, pUn, sEt, sEz, sEs]
 refine tkn (i := 11) (v := .int .i64 q) (fun W' hSW => ?_) ?_
 ·obtain ⟨s0, s1, b0, b1, b2, b3, b4⟩ := HZ.out W' hSW
  first | (go_simp; done) | exact rfl | (go_simp; rfl) | (go_simp; omega)
 try simp only [pUt, pUn, sEt, sEz, sEs]
 refine tkn (i := 12) (v := .slice (dR cap q (some ⟨g, o, none⟩)) (m - q) (cap - q)) (fun W' hSW => ?_) ?_
 ·obtain ⟨s0, s1, b0, b1, b2, b3, b4⟩ := HZ.out W' hSW
  first | (go_simp; done) | exact rfl | (go_simp; rfl) | (go_simp; omega)
 try simp only [pUt, pUn, sEt, sEz, sEs]
 refine tkn (i := 15) (v := .pointer (some ⟨SB, 1, none⟩)) (fun W' hSW => ?_) ?_
 ·obtain ⟨s0, s1, b0, b1, b2, b3, b4⟩ := HZ.out W' hSW
  first | (go_simp; done) | exact rfl | (go_simp; rfl) | (go_simp; omega)
 try simp only [pUt, pUn, sEt, sEz, sEs]
 refine tkn (i := 16) (v := .slice (some ⟨g, o, none⟩) m cap) (fun W' hSW => ?_) ?_
 ·obtain ⟨s0, s1, b0, b1, b2, b3, b4⟩ := HZ.out W' hSW
  first | (go_simp; done) | exact rfl | (go_simp; rfl) | (go_simp; omega)
 try simp only [pUt, pUn, sEt, sEz, sEs]
 refine tkn (i := 17) (v := .int .i64 k) (fun W' hSW => ?_) ?_
 ·obtain ⟨s0, s1, b0, b1, b2, b3, b4⟩ := HZ.out W' hSW
  first | (go_simp; done) | exact rfl | (go_simp; rfl) | (go_simp; omega)
 try simp only [pUt, pUn, sEt, sEz, sEs]
 refine tkn (i := 18) (v := .pointer (some ⟨g, o + k * 5, none⟩)) (fun W' hSW => ?_) ?_
 ·obtain ⟨s0, s1, b0, b1, b2, b3, b4⟩ := HZ.out W' hSW
  first | (go_simp; done) | exact rfl | (go_simp; rfl) | (go_simp; omega)
 try simp only [pUt, pUn, sEt, sEz, sEs]
 refine tkn (i := 19) (v := .agg #[.int .i64 x.key.time, .int .i64 x.key.source, .int .i64 x.key.seq, .int .i64 x.to, .int .i64 x.value]) (fun W' hSW => ?_) ?_
 ·obtain ⟨s0, s1, b0, b1, b2, b3, b4⟩ := HZ.out W' hSW
  first | (go_simp; done) | exact rfl | (go_simp; rfl) | (go_simp; omega)
 try simp only [pUt, pUn, sEt, sEz, sEs]
 refine take_call (i := 2) rfl (by kernel_rfl) (by kernel_rfl) (fun K hK => ?_)
 go_simp
 obtain ⟨V1, hV1⟩ : ∃ W, W3.alloc (.cells #[] 28) = W := ⟨_, rfl⟩
 obtain ⟨gr, hgr⟩ : ∃ g, W3.heap.size = g := ⟨_, rfl⟩
 have fV : Fr0 none' W3 V1 := by rw [← hV1]; exact (Fr0.refl _ _).alloc _
 have hrow0 : V1.ownsRow W3.heap.size 28 5 (.slice (some ⟨gr, 0, none⟩) 0 0) 0 [] := by
  rw [← hV1, ← hgr]
  exact World.ownsRow_lit (base := W3.heap.size) (e := 28) (size := 5) W3 #[] 0 (Nat.le_refl _) (by unfold maxLen; omega) rfl
 rw [hV1]
 try rw [hgr]
 have Hgr := Lib.hid hgr
 refine hK.out _ _ ((fV.drew).mono (fun _ _ h => h.elim)) (fun hS => ?_)
 clear hK K hV1 hgr
 try simp only [pUt, pUn, sEt, sEz, sEs]
 refine take_call (i := 7) rfl (by kernel_rfl) (by kernel_rfl) (fun K hK => ?_)
 have hsrc := ((HE3.out.later fV.drew).take k).src (n := k) (by rw [List.length_take, Hl.out]; omega) cap Tryz.underlying30
 refine wp_append_k _ _ 30 30 rfl W3.heap.size 28 i0 (.agg #[.int .i64 0, .int .i64 0, .int .i64 0, .int .i64 0, .int .i64 0]) 5 40 Tryz.underlying30 hi hz0 hz1 hz2 rfl (by decide) (.slice (some ⟨gr, 0, none⟩) 0 0) 0 _ rfl (ownsRow_fr0 hrow0 ((Fr0.refl none' V1).drew) (fun _ _ h => h)) (.slice (some ⟨g, o, none⟩) k cap) k _ rfl hsrc (by unfold maxLen; omega) (by omega) fV.size ?_
 intro v9 V9 hown hgw hdr hob
 have f9 : Fr0 none' W3 V9 := (fV.drew).trans' ((Fr0.refl (fun i => (Value.slice (some ⟨gr, 0, none⟩) 0 0).ownBlock = some i) _).grown hgw (fun i hi _ => hi)) (fun i hi h => by have := (hrow0.lt i h).1; omega)
 have hown9 := hown
 rw [Nat.zero_add, List.nil_append] at hown9
 have Hown := Lib.hid hown9
 have F9 := Lib.hid f9
 refine hK.out _ _ (f9.mono (fun _ _ h => h.elim)) (fun hS => ?_)
 clear hK K hgw hdr hob hsrc hrow0 fV hown f9 hS
 try simp only [pUt, pUn, sEt, sEz, sEs]
 refine take_call (i := 13) rfl (by kernel_rfl) (by kernel_rfl) (fun K hK => ?_)
 have hq := Hq.out
 have hsrc := ((HE3.out.later F9.out).restR (cap := cap) (by rw [Hl.out]; exact hc) q).src (n := m - q) (by rw [List.length_drop, Hl.out]) (cap - q) Tryz.underlying30
 refine wp_append_k _ _ 30 30 rfl W3.heap.size 28 i0 (.agg #[.int .i64 0, .int .i64 0, .int .i64 0, .int .i64 0, .int .i64 0]) 5 40 Tryz.underlying30 hi hz0 hz1 hz2 rfl (by decide) v9 k _ rfl Hown.out (.slice (dR cap q (some ⟨g, o, none⟩)) (m - q) (cap - q)) (m - q) _ rfl hsrc (by unfold maxLen; omega) (by omega) F9.out.size ?_
 intro v10 V10 hown hgw hdr hob
 have f10 : Fr0 none' W3 V10 := F9.out.trans' ((Fr0.refl (fun i => v9.ownBlock = some i) _).grown hgw (fun i hi _ => hi)) (fun i hi h => by have := (Hown.out.lt i h).1; omega)
 rw [← flatEv_append] at hown
 have hlen : (E.take k ++ E.drop q).length = k + (m - q) := by rw [List.length_append, List.length_take, List.length_drop, Hl.out]; omega
 obtain ⟨va, vc, rfl, _, _⟩ := EsIn.of_own hown
 have Hown := Lib.hid hown
 have Hlen := Lib.hid hlen
 have F10 := Lib.hid f10
 refine hK.out _ _ (f10.mono (fun _ _ h => h.elim)) (fun hS => ?_)
 clear hK K hgw hdr hob hsrc hown f10 hS hq hlen hHeld
 try simp only [pUt, pUn, sEt, sEz, sEs]
 have hS : Fr0 (fun k => k = SB + 1 ∨ k = SB + 1 + 1) W3 V10 := F10.out.mono (fun _ _ h => h.elim)
 refine tkn (i := 14) (v := .agg #[.int .i64 c, .slice va (k + (m - q)) vc]) (fun W' hSW => ?_) ?_
 ·obtain ⟨s0, s1, b0, b1, b2, b3, b4⟩ := HZ.out W' hSW
  first | (go_simp; done) | exact rfl | (go_simp; rfl) | (go_simp; omega)
 try simp only [pUt, pUn, sEt, sEz, sEs]
 have HR1 := Lib.hid ((F10.out.block (SB + 1) (Array.getElem?_eq_some_iff.1 HR1.out).1 id).trans HR1.out)
 have HR2 := Lib.hid ((F10.out.block (SB + 1 + 1) (Array.getElem?_eq_some_iff.1 HR2.out).1 id).trans HR2.out)
 refine take_call (i := 20) rfl (by kernel_rfl) (by kernel_rfl) (fun K hK => ?_)
 have t0 := thaw_in HR1.out 0
 have t1 := thaw_in HR1.out 1
 have u0 := cells_in HR1.out 0
 have u1 := cells_in HR1.out 1
 simp at u0 u1
 go_simp
 obtain ⟨W5, hW5⟩ : ∃ W, (V10.setCell ⟨SB + 1, 0, none⟩ (.int .i64 c)).setCell ⟨SB + 1, 1, none⟩ (.slice va (k + (m - q)) vc) = W := ⟨_, rfl⟩
 have f5 : Fr0 (fun k => k = SB + 1) V10 W5 := by rw [← hW5]; exact ((Fr0.refl (fun k => k = SB + 1) V10).setCell (fun _ => rfl) _).setCell (fun _ => rfl) _
 have HQ1 := Lib.hid (show W5.heap[SB + 1]? = some (.cells #[.int .i64 c, .slice va (k + (m - q)) vc] 50 (0, 0)) by rw [← hW5]; exact heap_set_cell (heap_set_cell HR1.out _) _)
 have HQ2 := Lib.hid ((f5.block (SB + 1 + 1) (Array.getElem?_eq_some_iff.1 HR2.out).1 (fun e => by omega)).trans HR2.out)
 rw [hW5]
 refine hK.out _ _ (hS.trans (f5.mono (fun _ _ h => .inl h))) (fun hS => ?_)
 clear hK K hW5 t0 t1 u0 u1
 try simp only [pUt, pUn, sEt, sEz, sEs]
 refine take_call (i := 21) rfl (by kernel_rfl) (by kernel_rfl) (fun K hK => ?_)
 have t0 := thaw_in HQ2.out 0
 have t1 := thaw_in HQ2.out 1
 have t2 := thaw_in HQ2.out 2
 have t3 := thaw_in HQ2.out 3
 have t4 := thaw_in HQ2.out 4
 have u0 := cells_in HQ2.out 0
 have u1 := cells_in HQ2.out 1
 have u2 := cells_in HQ2.out 2
 have u3 := cells_in HQ2.out 3
 have u4 := cells_in HQ2.out 4
 simp at u0 u1 u2 u3 u4
 go_simp
 obtain ⟨W6, hW6⟩ : ∃ W, ((((W5.setCell ⟨SB + 1 + 1, 0, none⟩ (.int .i64 x.key.time)).setCell ⟨SB + 1 + 1, 1, none⟩ (.int .i64 x.key.source)).setCell ⟨SB + 1 + 1, 2, none⟩ (.int .i64 x.key.seq)).setCell ⟨SB + 1 + 1, 3, none⟩ (.int .i64 x.to)).setCell ⟨SB + 1 + 1, 4, none⟩ (.int .i64 x.value) = W := ⟨_, rfl⟩
 have f6 : Fr0 (fun k => k = SB + 1 + 1) W5 W6 := by rw [← hW6]; exact (((((Fr0.refl (fun k => k = SB + 1 + 1) W5).setCell (fun _ => rfl) _).setCell (fun _ => rfl) _).setCell (fun _ => rfl) _).setCell (fun _ => rfl) _).setCell (fun _ => rfl) _
 have HQ1 := Lib.hid ((f6.block (SB + 1) (Array.getElem?_eq_some_iff.1 HQ1.out).1 (fun e => by omega)).trans HQ1.out)
 have HQ2 := Lib.hid (show W6.heap[SB + 1 + 1]? = some (.cells (cev x).toArray 28 (0, 0)) by rw [← hW6]; exact heap_set_cell (heap_set_cell (heap_set_cell (heap_set_cell (heap_set_cell HQ2.out _) _) _) _) _)
 rw [hW6]
 refine hK.out _ _ (hS.trans (f6.mono (fun _ _ h => .inr h))) (fun hS => ?_)
 clear hK K hW6 t0 t1 t2 t3 t4 u0 u1 u2 u3 u4
 try simp only [pUt, pUn, sEt, sEz, sEs]
 refine tkn (i := 22) (v := .int .i64 0) (fun W' hSW => ?_) ?_
 ·obtain ⟨s0, s1, b0, b1, b2, b3, b4⟩ := HZ.out W' hSW
  first | (go_simp; done) | exact rfl | (go_simp; rfl) | (go_simp; omega)
 try simp only [pUt, pUn, sEt, sEz, sEs]
 refine wpAnyH_done (by kernel_rfl) ?_ _
 have r0 := cells_in HQ1.out 0
 have r1 := cells_in HQ1.out 1
 simp at r0 r1
 have e0 := cells_in HQ2.out 0
 have e1 := cells_in HQ2.out 1
 have e2 := cells_in HQ2.out 2
 have e3 := cells_in HQ2.out 3
 have e4 := cells_in HQ2.out 4
 simp [cev] at e0 e1 e2 e3 e4
 have f610 : Fr0 (fun k => k = SB + 1 ∨ k = SB + 1 + 1) V10 W6 := (f5.mono (fun _ _ h => .inl h)).trans (f6.mono (fun _ _ h => .inr h))
 have HRow := Lib.hid (ownsRow_fr0 Hown.out f610 (fun g hg h => by
  have h7 := (Hown.out.lt g hg).1
  have h8 := (Array.getElem?_eq_some_iff.1 HS3.out).1
  have h9 := HR3.out
  rcases h with h | h <;> omega))
 have HFF := Lib.hid (show Fr0 none' w W6 from HF3.out.trans' hS (fun k hk h => by have := HSB.out; rcases h with h | h <;> omega))
 clear f5 f6 f610 hS
 go_wp2_with fail
 refine bodyPost_ret (v := .tuple #[.agg #[.int .i64 c, .slice va (k + (m - q)) vc], .agg #[.int .i64 x.key.time, .int .i64 x.key.source, .int .i64 x.key.seq, .int .i64 x.to, .int .i64 x.value], .int .i64 0]) (by simp [results, Tryz.results50, go_sem, r0, r1, e0, e1, e2, e3, e4]) rfl ⟨_, rfl, ?_, HFF.out⟩
 have hq := Hq.out
 subst hq
 rw [← Hlen.out] at HRow ⊢
 exact RAt.own HRow.out HF3.out.size
end Go.Proofs.YtmcgipilopfgoaaGreat
