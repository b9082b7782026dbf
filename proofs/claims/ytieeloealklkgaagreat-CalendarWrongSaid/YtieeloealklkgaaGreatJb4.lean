/-
  Spaces: what each function of the package does, and what the laws make of it.
-/
import Derived.Test.YtieeloealklkgaaGreatJb3
import Derived.Test.YtieeloealklkgaaGreatJb2
import Derived.Handy
import Derived.Test.YtieeloealklkgaaGreatJb1
import Derived.Test.YtieeloealklkgaaGreatJa1
import Derived.WideKeyPair
import Derived.Shelf.Spec.SlicesGrow
import Derived.Test.YtieeloealklkgaaGreatJa2
import Derived.Test.YtieeloealklkgaaGreatRows
import Derived.WalkKit
import Derived.ProofKit
import Derived.OpenShut
import Derived.ChangeMaps5
import Derived.Carry
import Derived.Deep.Slices
import Derived.Deep.Fields
import Derived.ChangeSame
import Derived.Lib.SmallJoins
set_option linter.unusedSimpArgs false
set_option linter.unusedVariables false

/-
  The queue: TakeBefore, Clear.
-/
namespace Go.Proofs.YtieeloealklkgaaGreat
open Go Go.RowKit Go.ChangeMaps
attribute [local go_sem ↓] Go.wp_at_zero Go.wp_at_succ
attribute [local go_sem] Oper.semAt_some wide_fn wide_depth wide_fnR wide_depthR
variable {w w' : World} {qb n T : Nat} {E : List Ev} {ft : Nat → Prop}

set_option maxRecDepth 100000 in
set_option maxHeartbeats 2000000 in
theorem QIs.clear (h : QIs w qb n T E ft) (hT : T < 4294967296) :
  Calls Tryz.prog 154 #[.pointer (some ⟨qb, 0, none⟩)] w fun e w' => e = .returned (.tuple #[.int .i64 (E.length : Nat), .int .i64 0]) ∧ QIs w' qb n T [] (qgrow ft w w') ∧ Fr0 ft w w' := by
 have H := Lib.hid h
 obtain ⟨m, hm⟩ : ∃ m, E.length = m := ⟨_, rfl⟩
 have HL := Lib.hid h.len
 rw [hm] at HL ⊢
 have Hm := Lib.hid hm
 have hm' : m ≤ 256 := by have := h.le; omega
 clear h hm
 go_enter Tryz.func154, Tryz.ntmps154
 go_wp2_with fail
 refine H.out.isnt.mono ?_
 rintro e w1 ⟨rfl, rfl⟩
 go_wp2_with fail
 refine HL.out.mono ?_
 rintro e w1 ⟨rfl, rfl⟩
 go_wp2_with fail
 go_loopw [10] (fun i wr => ∃ k : Nat, k ≤ m ∧ i = .int .i64 k ∧ Hid (QIs wr qb n T (E.drop k) (qgrow ft w wr)) ∧ Hid (Fr0 ft w wr)) (fun i _ => m - (Go.RowKit.intOf i).toNat)
 case atStart => exact ⟨0, Nat.zero_le _, rfl, qgrow_refl H.out, Fr0.refl _ _⟩
 case round =>
  obtain ⟨k, hk, rfl, hq, hfr⟩ := hrel
  by_cases hlt : k < m
  ·have k1 : (0 : Int) ≤ (k : Int) := by omega
   have k2 : (k : Int) < (m : Int) := by omega
   go_wp2_with fail
   refine (hq.out.take hT).mono ?_
   rintro e w5 ⟨rfl, hq5, hf5⟩
   rw [List.tail_drop] at hq5
   have hq5 := Lib.hid (hq5.then hfr.out.size hf5.size H.out.lt)
   have hf5 := Lib.hid (fr_grow hfr.out hf5)
   go_wp2_with fail
   go_roundw
   case rel => exact ⟨k + 1, by omega, by go_num, hq5, hf5⟩
   case measure => simp [Go.RowKit.intOf]; omega
  ·have hkm : k = m := by omega
   subst hkm
   rw [List.drop_of_length_le (by rw [Hm.out]; exact Nat.le_refl _)] at hq
   go_wp2
   go_ret2
   exact ⟨rfl, hq.out, hfr.out⟩
/-- What TakeBefore leaves. -/
def BefPost (w : World) (qb n T : Nat) (E : List Ev) (ft : Nat → Prop) (t : Int) (e : Ending) (w' : World) : Prop :=
 ∃ v ft', e = .returned v ∧ w'.ownsRow w.heap.size 30 5 v (befE t E).length (flatEv (befE t E)) ∧ QIs w' qb n T (aftE t E) ft' ∧ (∀ k, ft' k → ft k ∨ w.heap.size ≤ k) ∧ (∀ g, v.ownBlock = some g → ¬ ft' g) ∧ Fr0 ft w w'
set_option maxRecDepth 100000 in
set_option maxHeartbeats 2000000 in
theorem QIs.takeBefore (h : QIs w qb n T E ft) (t : Int) (hT : T < 4294967296) :
  Calls Tryz.prog 157 #[.pointer (some ⟨qb, 0, none⟩), .int .i64 t] w (BefPost w qb n T E ft t) := by
 have H := Lib.hid h
 have HLe := Lib.hid h.least
 have HE := Lib.hid h.le
 clear h
 obtain ⟨i0, hi, hz0, hz1, hz2⟩ := info_parts info_event0
 go_enter Tryz.func157, Tryz.ntmps157
 go_wp2_with fail
 refine HLe.out.mono ?_
 rintro e w1 ⟨rfl, hf1⟩
 obtain ⟨x0, hx0⟩ : ∃ x0, lstE E = x0 := ⟨_, rfl⟩
 obtain ⟨b0, hb0⟩ : ∃ b0, (!E.isEmpty) = b0 := ⟨_, rfl⟩
 rw [hx0, hb0]
 simp only [evV]
 have Hx0 := Lib.hid hx0
 have Hb0 := Lib.hid hb0
 clear hx0 hb0
 go_wp2_with fail
 obtain ⟨q0, hq0⟩ : ∃ q0, w1.heap.size = q0 := ⟨_, rfl⟩
 obtain ⟨W2, hW2⟩ : ∃ W, w1.alloc (.cells #[.int .i64 x0.key.time, .int .i64 x0.key.source, .int .i64 x0.key.seq, .int .i64 x0.to, .int .i64 x0.value] 30) = W := ⟨_, rfl⟩
 have hb2 := Lib.hid (show W2.heap[q0]? = some (.cells #[.int .i64 x0.key.time, .int .i64 x0.key.source, .int .i64 x0.key.seq, .int .i64 x0.to, .int .i64 x0.value] 30 (0, 0)) by rw [← hW2, ← hq0]; exact World.alloc_heap_new w1 _)
 have F2 := Lib.hid (show Fr0 none' w W2 by rw [← hW2]; exact hf1.alloc _)
 have Hq0 := Lib.hid (show w.heap.size ≤ q0 by rw [← hq0]; exact hf1.size)
 rw [hW2]
 try rw [hq0]
 clear hW2 hq0 hf1
 go_loopw [5, 6, 7] (fun v p b wr => ∃ (k q : Nat) (x : Ev) (fk : Nat → Prop) (bo : Bool), p = .pointer (some ⟨q, 0, none⟩) ∧ b = .bool bo ∧ k ≤ E.length ∧ Hid (lstE (E.drop k) = x ∧ (!(E.drop k).isEmpty) = bo) ∧
  Hid (wr.heap[q]? = some (.cells #[.int .i64 x.key.time, .int .i64 x.key.source, .int .i64 x.key.seq, .int .i64 x.to, .int .i64 x.value] 30 (0, 0))) ∧ Hid (wr.ownsRow w.heap.size 30 5 v k (flatEv (E.take k))) ∧ Hid (∀ y ∈ E.take k, y.key.time < t) ∧
  Hid (QIs wr qb n T (E.drop k) fk) ∧ Hid ((∀ k, fk k → ft k ∨ w.heap.size ≤ k) ∧ ¬ fk q ∧ w.heap.size ≤ q ∧ ∀ g, v.ownBlock = some g → ¬ fk g ∧ g ≠ q) ∧ Hid (Fr0 ft w wr)) (fun v _ _ _ => E.length - (match v with | .slice _ j _ => j | _ => 0))
 case atStart =>
  exact ⟨0, q0, x0, ft, b0, rfl, rfl, Nat.zero_le _, ⟨Hx0.out, Hb0.out⟩, hb2, World.ownsRow_nil _ _ _ _, by unfold Hid; simp, H.out.later F2.out, ⟨fun _ h => .inl h, fun h => by have := H.out.lt _ h; have := Hq0.out; omega, Hq0.out, fun g hg => by cases hg⟩, F2.out.mono (fun _ _ h => h.elim)⟩
 case round =>
  obtain ⟨k, q, x, fk, bo, rfl, rfl, hk, hx, hbq, hrow, hpre, hq, hdis, hfr⟩ := hrel
  obtain ⟨va, vc, rfl, _, _⟩ := EsIn.of_own hrow.out
  by_cases hlt : k < E.length
  ·obtain ⟨y, hy⟩ : ∃ y, E[k]? = some y := ⟨_, List.getElem?_eq_getElem hlt⟩
   have hdr : E.drop k = y :: E.drop (k + 1) := by
    rw [List.drop_eq_getElem_cons hlt]
    congr 1
    rw [List.getElem?_eq_getElem hlt] at hy
    exact Option.some.inj hy
   have hxy : y = x := by have := hx.out.1; rw [hdr] at this; exact this
   have hbo : true = bo := by have := hx.out.2; rw [hdr] at this; exact this
   subst hxy
   subst hbo
   have Hy := Lib.hid hy
   have Hdr := Lib.hid hdr
   clear hy hdr hx
   have x0 := cells_in hbq.out 0
   simp at x0
   by_cases ht : y.key.time < t
   ·have d1 : decide (y.key.time < t) = true := decide_eq_true ht
    have Ht := Lib.hid ht
    clear ht
    go_wp2_with fail
    refine (hq.out.take hT).mono ?_
    rintro e w5 ⟨rfl, hq5, hf5⟩
    have hb5 := Lib.hid ((hf5.block q (Array.getElem?_eq_some_iff.1 hbq.out).1 hdis.out.2.1).trans hbq.out)
    have hr5 := Lib.hid (ownsRow_fr0 hrow.out hf5 (fun g hg => (hdis.out.2.2.2 g hg).1))
    have hq5 := Lib.hid hq5
    have F5 := Lib.hid hf5
    have Fw5 := Lib.hid (hfr.out.trans' hf5 (fun i hi hs => (hdis.out.1 i hs).elim id (fun h => by omega)))
    clear x0 d1 hf5
    have x0 := cells_in hb5.out 0
    have x1 := cells_in hb5.out 1
    have x2 := cells_in hb5.out 2
    have x3 := cells_in hb5.out 3
    have x4 := cells_in hb5.out 4
    simp at x0 x1 x2 x3 x4
    have hsrc := Src.newRow (P := Tryz.prog) (size := 5) (tx := 22) (ty := 30) w5 Tryz.underlying22 1 1 (cev y) rfl (by simp [Value.oneCell', cev])
    simp only [cev] at hsrc
    have hbase : w.heap.size ≤ w5.heap.size := Fw5.out.size
    have hkn : k ≤ 256 := by have := HE.out; omega
    go_wp2_with (at_builtin; refine wpList_append_k rfl _ _ 22 22 rfl w.heap.size 30 i0 (.agg #[.int .i64 0, .int .i64 0, .int .i64 0, .int .i64 0, .int .i64 0]) 5 40 Tryz.underlying22 hi hz0 hz1 hz2 rfl (by decide) (.slice va k vc) k _ rfl (ownsRow_fr0 hr5.out ((Fr0.refl none' w5).alloc _) (fun _ _ h => h)) (.slice (some ⟨w5.heap.size, 0, none⟩) 1 1) 1 _ rfl hsrc (by unfold maxLen; omega) (by omega) (by simp; omega) ?_; intro v6 w6 hown hgrow hdr hob; have Hown := Lib.hid hown; have Hgr := Lib.hid hgrow; have Hob := Lib.hid hob; have hfg : Fr0 (fun i => (Value.slice va k vc).ownBlock = some i) w5 w6 := ((Fr0.refl _ w5).alloc _).grown hgrow (fun i hi _ => hi); have hb6 := (hfg.block q (Array.getElem?_eq_some_iff.1 hb5.out).1 (fun e => (hdis.out.2.2.2 q e).2 rfl)).trans hb5.out; have F6 := Lib.hid hfg; have Hb6 := Lib.hid hb6; clear hown hgrow hdr hob x0 x1 x2 x3 x4 hfg hsrc; have x0 := cells_in hb6 0; have x1 := cells_in hb6 1; have x2 := cells_in hb6 2; have x3 := cells_in hb6 3; have x4 := cells_in hb6 4; simp at x0 x1 x2 x3 x4; clear hb6)
    clear x0 x1 x2 x3 x4
    obtain ⟨q6, hq6⟩ : ∃ q6, w6.heap.size = q6 := ⟨_, rfl⟩
    obtain ⟨W7, hW7⟩ : ∃ W, w6.alloc (.cells #[.int .i64 y.key.time, .int .i64 y.key.source, .int .i64 y.key.seq, .int .i64 y.to, .int .i64 y.value] 30) = W := ⟨_, rfl⟩
    have hb7 := Lib.hid (show W7.heap[q6]? = some (.cells #[.int .i64 y.key.time, .int .i64 y.key.source, .int .i64 y.key.seq, .int .i64 y.to, .int .i64 y.value] 30 (0, 0)) by rw [← hW7, ← hq6]; exact World.alloc_heap_new w6 _)
    have F7 := Lib.hid (show Fr0 none' w6 W7 by rw [← hW7]; exact (Fr0.refl _ _).alloc _)
    rw [hW7]
    try rw [hq6]
    have Hq6 := Lib.hid hq6
    clear hW7 hq6
    have hq57 : ∀ g, (Value.slice va k vc).ownBlock = some g → ¬ qgrow fk wr w5 g := fun g hg hh => by
     have h1 := hrow.out.lt g hg
     rcases hh with hh | hh
     ·exact (hdis.out.2.2.2 g hg).1 hh
     ·omega
    have HQ7 := Lib.hid ((hq5.out.fr0 F6.out (fun j hj hs => hq57 j hs hj)).later F7.out)
    refine HQ7.out.least.mono ?_
    rintro e w8 ⟨rfl, hf8⟩
    rw [List.tail_drop] at HQ7 ⊢
    obtain ⟨z, hz⟩ : ∃ z, lstE (E.drop (k + 1)) = z := ⟨_, rfl⟩
    obtain ⟨b2, hb2⟩ : ∃ b2, (!(E.drop (k + 1)).isEmpty) = b2 := ⟨_, rfl⟩
    rw [hz, hb2]
    have HZ := Lib.hid (show lstE (E.drop (k + 1)) = z ∧ (!(E.drop (k + 1)).isEmpty) = b2 from ⟨hz, hb2⟩)
    have hb8 := Lib.hid ((hf8.block q6 (Array.getElem?_eq_some_iff.1 hb7.out).1 id).trans hb7.out)
    have F68 := Lib.hid (F7.out.trans hf8)
    have HQ8 := Lib.hid (HQ7.out.later hf8)
    have Hq57 := Lib.hid hq57
    clear hz hb2 hf8 hq57
    simp only [evV]
    have y0 := cells_in hb8.out 0
    have y1 := cells_in hb8.out 1
    have y2 := cells_in hb8.out 2
    have y3 := cells_in hb8.out 3
    have y4 := cells_in hb8.out 4
    simp at y0 y1 y2 y3 y4
    have t0 := thaw_in hb8.out 0
    have t1 := thaw_in hb8.out 1
    have t2 := thaw_in hb8.out 2
    have t3 := thaw_in hb8.out 3
    have t4 := thaw_in hb8.out 4
    go_wp2_with fail
    obtain ⟨W9, hW9⟩ : ∃ W, (((((w8.setCell ⟨q6, 0, none⟩ (.int .i64 z.key.time)).setCell ⟨q6, 1, none⟩ (.int .i64 z.key.source)).setCell ⟨q6, 2, none⟩ (.int .i64 z.key.seq)).setCell ⟨q6, 3, none⟩ (.int .i64 z.to)).setCell ⟨q6, 4, none⟩ (.int .i64 z.value)) = W := ⟨_, rfl⟩
    try rw [hW9]
    have e9 := Lib.hid (show W9.heap[q6]? = some (.cells #[.int .i64 z.key.time, .int .i64 z.key.source, .int .i64 z.key.seq, .int .i64 z.to, .int .i64 z.value] 30 (0, 0)) by rw [← hW9]; exact ev_set5 hb8.out _ _ _ _ _)
    have f89 : Fr0 (fun j => j = q6) w8 W9 := by rw [← hW9]; exact (((((Fr0.refl (fun j => j = q6) w8).setCell (fun _ => rfl) _).setCell (fun _ => rfl) _).setCell (fun _ => rfl) _).setCell (fun _ => rfl) _).setCell (fun _ => rfl) _
    have hs5 : wr.heap.size ≤ w5.heap.size := F5.out.size
    have hs6 : w5.heap.size ≤ q6 := by rw [← Hq6.out]; exact F6.out.size
    have hsr : w.heap.size ≤ wr.heap.size := hfr.out.size
    have hfk : ∀ j, qgrow fk wr w5 j → j < w5.heap.size := fun j hj => qgrow_lt hs5 hq.out.lt hj
    have hv6 : ∀ g, v6.ownBlock = some g → ¬ qgrow fk wr w5 g ∧ g ≠ q6 := fun g hg => by
     have hl6 := (Hown.out.lt g hg).2
     refine ⟨fun hh => ?_, by rw [← Hq6.out]; omega⟩
     rcases Hob.out with hob | hob
     ·exact Hq57.out g (by rw [← hob]; exact hg) hh
     ·rw [hg] at hob
      injection hob with hob
      have := hfk g hh
      rw [World.size_alloc] at hob
      omega
    have hrow9 : W9.ownsRow w.heap.size 30 5 v6 (k + 1) (flatEv (E.take (k + 1))) := by
     have h1 := Hown.out
     rw [show [Value.int IntKind.i64 y.key.time, Value.int IntKind.i64 y.key.source, Value.int IntKind.i64 y.key.seq, Value.int IntKind.i64 y.to, Value.int IntKind.i64 y.value] = cev y from rfl, ← flatEv_snoc, show E.take k ++ [y] = E.take (k + 1) by rw [List.take_add_one, Hy.out]; rfl] at h1
     exact ownsRow_fr0 (ownsRow_fr0 h1 F68.out (fun _ _ h => h)) f89 (fun g hg => (hv6 g hg).2)
    have hQ9 : QIs W9 qb n T (E.drop (k + 1)) (qgrow fk wr w5) := HQ8.out.fr0 f89 (fun j hj e => by have := hfk j hj; omega)
    have hfr9 : Fr0 ft w W9 := by
     have g1 := Fw5.out.trans' F6.out (fun j hj hs => absurd (hr5.out.lt j hs).1 (Nat.not_le.2 hj))
     exact (g1.trans' F68.out (fun _ _ h => h.elim)).trans' f89 (fun j hj e => by omega)
    have hpre9 : ∀ u ∈ E.take (k + 1), u.key.time < t := fun u hu => by
     rw [List.take_add_one, Hy.out, List.mem_append] at hu
     rcases hu with hu | hu
     ·exact hpre.out u hu
     ·simp at hu; subst hu; exact Ht.out
    have hkl : k + 1 ≤ E.length := (List.getElem?_eq_some_iff.1 Hy.out).1
    obtain ⟨v6a, v6c, rfl, _, _⟩ := EsIn.of_own hrow9
    have R1 := Lib.hid hrow9
    have R2 := Lib.hid hQ9
    have R3 := Lib.hid hfr9
    have R4 := Lib.hid hpre9
    have R5 := Lib.hid (show (∀ j, qgrow fk wr w5 j → ft j ∨ w.heap.size ≤ j) ∧ ¬ qgrow fk wr w5 q6 ∧ w.heap.size ≤ q6 ∧ ∀ g, (Value.slice v6a (k + 1) v6c).ownBlock = some g → ¬ qgrow fk wr w5 g ∧ g ≠ q6 from ⟨fun j hj => by
     rcases hj with hj | hj
     ·exact hdis.out.1 j hj
     ·exact .inr (by omega), fun hh => by have := hfk q6 hh; omega, by omega, hv6⟩)
    clear hrow9 hQ9 hfr9 hpre9 hv6 f89 hW9 y0 y1 y2 y3 y4 t0 t1 t2 t3 t4 hfk
    go_roundw
    case rel => exact ⟨k + 1, q6, z, qgrow fk wr w5, b2, rfl, rfl, hkl, HZ, e9, R1, R4, R2, R5, R3⟩
    case measure => simp; omega
   ·have d1 : decide (y.key.time < t) = false := decide_eq_false ht
    obtain ⟨e1, e2⟩ := bef_cut H.out.good.1 (t := t) (k := k) hpre.out (fun u hu => by rw [Hy.out] at hu; cases hu; exact ht)
    have hl : (E.take k).length = k := by rw [List.length_take]; omega
    have R := Lib.hid (show BefPost w qb n T E ft t (.returned (.slice va k vc)) wr from ⟨_, fk, rfl, by rw [e1, hl]; exact hrow.out, by rw [e2]; exact hq.out, hdis.out.1, fun g hg => (hdis.out.2.2.2 g hg).1, hfr.out⟩)
    clear ht e1 e2 hl
    go_wp2_with fail
    go_ret
    exact R.out
  ·have hnone : E[k]? = none := List.getElem?_eq_none (by omega)
   have hdr : E.drop k = [] := List.drop_eq_nil_of_le (by omega)
   have hbo : false = bo := by have := hx.out.2; rw [hdr] at this; exact this
   subst hbo
   obtain ⟨e1, e2⟩ := bef_cut H.out.good.1 (t := t) (k := k) hpre.out (fun u hu => by rw [hnone] at hu; cases hu)
   have hl : (E.take k).length = k := by rw [List.length_take]; omega
   have R := Lib.hid (show BefPost w qb n T E ft t (.returned (.slice va k vc)) wr from ⟨_, fk, rfl, by rw [e1, hl]; exact hrow.out, by rw [e2]; exact hq.out, hdis.out.1, fun g hg => (hdis.out.2.2.2 g hg).1, hfr.out⟩)
   clear e1 e2 hl hnone hdr hx
   go_wp2_with fail
   go_ret
   exact R.out
end Go.Proofs.YtieeloealklkgaaGreat

/-
  The queue: Copy.
-/
namespace Go.Proofs.YtieeloealklkgaaGreat
open Go Go.RowKit Go.ChangeMaps
attribute [local go_sem ↓] Go.wp_at_zero Go.wp_at_succ
attribute [local go_sem] Oper.semAt_some wide_fn wide_depth wide_fnR wide_depthR
variable {w w' : World} {qb n T : Nat} {E : List Ev} {ft : Nat → Prop}

theorem QIs.ordered (h : QIs w qb n T E ft) (cb : Nat) (hbx : Box w cb (.pointer (some ⟨qb, 0, none⟩))) :
  ∃ rd : Nat → Prop, IterX0 Tryz.prog 75 #[.pointer (some ⟨cb, 0, none⟩)] (fun x : Ev => #[evV x]) E none' rd w ∧ ∀ k, rd k → k = cb ∨ ft k := by
 obtain ⟨sb, pb, hb, ba, eb, mb, hv, X, F, P, first, V, h1, rfl, h3, h4⟩ := h
 exact ⟨_, ordered_iter h1 cb hbx, fun k hk => hk.imp id (h3 k)⟩
theorem QIs.evs (h : QIs w qb n T E ft) : ∃ eb, w.cell? ⟨qb, 2, none⟩ = some (.slice (some ⟨eb, 0, none⟩) n n) ∧ ft qb := by
 obtain ⟨sb, pb, hb, ba, eb, mb, hv, X, F, P, first, V, h1, rfl, h3, h4⟩ := h
 exact ⟨eb, h1.c2, h3 _ (.inl rfl)⟩
theorem take_puts {E : List Ev} (h : AscE E) (ho : OnceE E) (k : Nat) : putsE (E.take k) [] = E.take k := asc_puts (asc_sub h (List.take_sublist _ _)) (once_sub ho (List.take_sublist _ _))
set_option maxRecDepth 100000 in
set_option maxHeartbeats 2000000 in
theorem QCopy_in (h : QIs w qb n T E ft) : CallsIn Fence.wide 0 Tryz.prog 39 #[.pointer (some ⟨qb, 0, none⟩)] w fun e w' => ∃ cb ft', e = .returned (.tuple #[.pointer (some ⟨cb, 0, none⟩), .int .i64 0]) ∧ QIs w' cb n E.length E ft' ∧ (∀ k, ft' k → w.heap.size ≤ k) ∧ Fr0 none' w w' := by
 have H := Lib.hid h
 have HG := Lib.hid h.good
 have HE := Lib.hid h.le
 clear h
 refine callsIn_of_wp_marks Tryz.func39 rfl trivial ?_ rfl
 simp only [Tryz.ntmps39, List.size_toArray, List.length_cons, List.length_nil, Nat.reduceAdd, Nat.reduceSub, Array.replicate_succ, Array.replicate_zero, List.push_toArray, List.append_toArray, List.nil_append, List.cons_append]
 gi_wp2_with fail
 refine (callsIn_wide.2 H.out.isnt).mono ?_
 rintro e w1 ⟨rfl, rfl⟩
 obtain ⟨eb, c2, hfq⟩ := H.out.evs
 gi_wp2_with fail
 clear c2
 refine (callsIn_wide.2 (QNew_is n HE.out.2 _)).mono ?_
 rintro e w2 ⟨qc, ftc, rfl, hq2, f2, hge⟩
 have HQ2 := Lib.hid hq2
 have F2 := Lib.hid f2
 have Hge := Lib.hid hge
 clear hq2 f2 hge
 gi_wp2_with fail
 obtain ⟨N0, hN0⟩ : ∃ N0, w2.heap.size = N0 := ⟨_, rfl⟩
 obtain ⟨W3, hW3⟩ : ∃ W, w2.alloc (.cells #[.pointer (some ⟨qc, 0, none⟩)] 37) = W := ⟨_, rfl⟩
 have Bc3 := Lib.hid (show Box W3 N0 (.pointer (some ⟨qc, 0, none⟩)) by rw [← hW3, ← hN0]; exact Box.new _ _ _)
 have F23 := Lib.hid (show Fr0 none' w2 W3 by rw [← hW3]; exact (Fr0.refl _ _).alloc _)
 have Hs3 := Lib.hid (show W3.heap.size = N0 + 1 by rw [← hW3, World.size_alloc, hN0])
 rw [hW3]
 try rw [hN0]
 have HN0 := Lib.hid hN0
 clear hW3 hN0
 refine (callsIn_wide.2 (ordered_any qb W3)).mono ?_
 rintro e w4 ⟨rfl, hw4⟩
 rw [Hs3.out]
 obtain ⟨W4, hW4⟩ : ∃ W, W3.alloc (.cells #[.pointer (some ⟨qb, 0, none⟩)] 37) = W := ⟨_, rfl⟩
 rw [hW4] at hw4
 subst hw4
 have F34 := Lib.hid (show Fr0 none' W3 w4 by rw [← hW4]; exact (Fr0.refl _ _).alloc _)
 have Bq4 := Lib.hid (show Box w4 (N0 + 1) (.pointer (some ⟨qb, 0, none⟩)) by rw [← hW4, ← Hs3.out]; exact Box.new _ _ _)
 have Hs4 := Lib.hid (show w4.heap.size = N0 + 2 by rw [← hW4, World.size_alloc, Hs3.out])
 have F4 := Lib.hid (show Fr0 none' w w4 from (F2.out.trans F23.out).trans F34.out)
 have H4 := Lib.hid (H.out.later F4.out)
 have HQ4 := Lib.hid (HQ2.out.later (F23.out.trans F34.out))
 have Bc4 := Lib.hid (Bc3.out.fr0 F34.out id)
 clear hW4
 obtain ⟨rd, it, hrd⟩ := H4.out.ordered (N0 + 1) Bq4.out
 have Hrd := Lib.hid hrd
 clear hrd
 gi_wp2_with fail
 have hN2 : w.heap.size ≤ N0 := by have := F2.out.size; have := HN0.out; omega
 have HN2 := Lib.hid hN2
 have hlf := H.out.lt
 refine wpIn_iterS0 (σ := Nat → Prop) (gf := 75) (lb := #[.pointer (some ⟨N0 + 1, 0, none⟩)]) rfl (by intro args w; rfl) it (Keep.refl _ _) (fun _ => rfl) (fun k hk => hk.elim) (fun k hk => by
   rw [Hs4.out]
   rcases Hrd.out k hk with rfl | h
   ·omega
   ·have := hlf k h; omega)
  (fun i s W => QIs W qc n i (E.take i) s ∧ Box W N0 (.pointer (some ⟨qc, 0, none⟩)) ∧ (∀ k, s k → w.heap.size ≤ k ∧ k ≠ N0 ∧ k ≠ N0 + 1) ∧ Fr0 none' w W) (fun s k => s k ∨ k = N0) (fun _ _ => False) ?hInv ?hlt (fun _ _ _ h _ => h.elim) ftc ?h0 ?hf0
  (fun x W a' => ∃ B, a' = { tmps := #[.pointer (some ⟨qb, 0, none⟩), undef, .pointer none, .int .i64 0, .pointer (some ⟨N0, 0, none⟩), .int .i64 0, .pointer (some ⟨B, 0, none⟩), .pointer (some ⟨qb, 0, none⟩), .bool false, .tuple #[.pointer (some ⟨qc, 0, none⟩), .int .i64 0], .pointer (some ⟨qb, 0, none⟩), .pointer (some ⟨qb, 0, none⟩), .pointer (some ⟨qb, 2, none⟩), .slice (some ⟨eb, 0, none⟩) n n, .int .i64 n, .tuple #[.pointer (some ⟨qc, 0, none⟩), .int .i64 0], .pointer (some ⟨qc, 0, none⟩), .int .i64 0, .int .i64 0, .bool false, undef, .pointer (some ⟨qb, 0, none⟩), .func (.func 75) #[] #[.pointer (some ⟨N0 + 1, 0, none⟩)], evV x, undef, undef, undef, undef], defers := [] } ∧ N0 + 3 < B ∧ W.heap[B]? = some (.cells (cev x).toArray 30 (0, 0)))
  ?assign ?keep ?body ?done (fun _ _ _ _ h _ => h.elim)
 case hInv =>
  rintro i s W1 W2 ⟨h1, h2, h3, h4⟩ hf
  rw [Hs4.out] at hf
  refine ⟨h1.fr0 hf (fun k hk hs => hs.2 (.inl hk)), h2.fr0 hf (fun hs => hs.2 (.inr rfl)), h3, h4.trans' hf (fun k hk hs => ?_)⟩
  rcases hs.1 with h | h
  ·exact h
  ·have := HN2.out; omega
 case hlt =>
  rintro i s W k ⟨h1, h2, h3, h4⟩ (hk | rfl)
  ·exact h1.lt k hk
  ·exact h2.lt
 case h0 =>
  refine ⟨HQ4.out, Bc4.out, fun k hk => ⟨Hge.out k hk, ?_⟩, F4.out⟩
  have := HQ2.out.lt k hk
  have := HN0.out
  omega
 case hf0 =>
  rintro k hk
  refine ⟨id, fun hr => ?_⟩
  have h1 : k ≠ N0 + 1 ∧ w.heap.size ≤ k := by
   rcases hk with hk | rfl
   ·have := HQ2.out.lt k hk
    have := HN0.out
    exact ⟨by omega, Hge.out k hk⟩
   ·exact ⟨by omega, HN2.out⟩
  rcases Hrd.out k hr with h | h
  ·exact h1.1 h
  ·have := hlf k h; omega
 case assign =>
  intro l x W K hlt hK
  rw [Hs4.out] at hlt
  simp only [evV]
  gi_wp2
  exact hK _ _ ⟨W.heap.size, by simp [evV], by omega, World.alloc_heap_new W _⟩ ((Fr0.refl _ _).alloc _)
 case keep =>
  rintro x W4 W5 a' ⟨B, rfl, hB, hc⟩ hf
  exact ⟨B, rfl, hB, (hf.block B (Array.getElem?_eq_some_iff.1 hc).1 (by rw [Hs4.out]; omega)).trans hc⟩
 case body =>
  rintro l i x s W a' hxi ⟨h1, h2, h3, h4⟩ hfoot hsz ⟨B, rfl, hB, hcB⟩
  have hlt : i < E.length := (List.getElem?_eq_some_iff.1 hxi).1
  have b0 := cells_in hcB 0
  have b1 := cells_in hcB 1
  have b2 := cells_in hcB 2
  have b3 := cells_in hcB 3
  have b4 := cells_in hcB 4
  simp [cev] at b0 b1 b2 b3 b4
  have cN := h2.cell
  have hsn : E.take (i + 1) = insE x (E.take i) := by
   rw [← take_puts HG.out.1 HG.out.2.1 (i + 1), List.take_add_one, hxi]
   show putsE (E.take i ++ [x]) [] = _
   rw [putsE_snoc, take_puts HG.out.1 HG.out.2.1 i]
  have hnm : ∀ y ∈ E.take i, y.name ≠ x.name := fun y hy e => by
   have h5 : OnceE (E.take (i + 1)) := once_sub HG.out.2.1 (List.take_sublist _ _)
   rw [List.take_add_one, hxi] at h5
   have h6 := OnceE.perm h5 List.perm_append_comm
   exact (once_cons.1 h6).1 y hy e
  have hre := HG.out.2.2 x (List.mem_of_getElem? hxi)
  have HPt := Lib.hid (h1.put hre hnm (by have := HE.out; omega) (by rw [List.length_take]; have := HE.out; omega))
  have Hsn := Lib.hid hsn
  have H1 := Lib.hid h1
  have H2 := Lib.hid h2
  have H3 := Lib.hid h3
  have H4' := Lib.hid h4
  have Hsz := Lib.hid hsz
  unfold evV at HPt
  clear hxi hfoot hsz hcB h1 h2 h3 h4 hsn hnm hre
  simp only [evV]
  gi_wp2_with fail
  refine (callsIn_wide.2 HPt.out).mono ?_
  rintro e w5 ⟨rfl, hq5, hf5⟩
  gi_wp2_with fail
  refine ⟨qgrow s W w5, ⟨by rw [Hsn.out]; exact hq5, ?_, fun k hk => ?_, ?_⟩, hf5.mono (fun _ _ hk => .inl hk), fun k hk => ?_⟩
  ·exact H2.out.fr0 hf5 (fun h => (H3.out N0 h).2.1 rfl)
  ·rcases hk with hk | hk
   ·exact H3.out k hk
   ·have g1 := H4'.out.size
    have g2 := Hsz.out
    rw [Hs4.out] at g2
    exact ⟨by omega, by omega, by omega⟩
  ·exact H4'.out.trans' hf5 (fun k hk h => absurd (H3.out k h).1 (Nat.not_le.2 hk))
  ·rcases hk with (hk | hk) | hk
   ·exact .inl (.inl hk)
   ·exact .inr hk.1
   ·exact .inl (.inr hk)
 case done =>
  rintro D s W hDe ⟨h1, h2, h3, h4⟩ hDf hK
  rw [Hs4.out] at hDe
  subst hDe
  have hc := h2.cell
  rw [List.take_length] at h1
  have hW : N0 + 2 < W.heap.size := (Array.getElem?_eq_some_iff.1 hK).1
  have hfp : Fr0 (fun k => k = N0 + 2) W (W.putObj (N0 + 2) (.deferred none)) := Fr0.putNew _ _ rfl
  have hfin := Lib.hid (show QIs (W.putObj (N0 + 2) (.deferred none)) qc n E.length E s ∧ (∀ k, s k → w.heap.size ≤ k) ∧ Fr0 none' w (W.putObj (N0 + 2) (.deferred none)) from ⟨h1.fr0 hfp (fun k hk e => hDf k (.inl hk) (by rw [e])), fun k hk => (h3 k hk).1, h4.trans' hfp (fun k hk e => by have := HN2.out; omega)⟩)
  have HK := Lib.hid hK
  clear h1 h2 h3 h4 hDf hK hfp it
  gi_wp2
  refine ⟨by simp, .inl ⟨_, _, rfl, run_takeDeferred HK.out, ?_⟩⟩
  refine ⟨_, results_tmp2 rfl _ _ _, qc, s, rfl, hfin.out⟩
/-- Copy, on a queue. -/
theorem QIs.copy (h : QIs w qb n T E ft) : Calls Tryz.prog 39 #[.pointer (some ⟨qb, 0, none⟩)] w fun e w' => ∃ cb ft', e = .returned (.tuple #[.pointer (some ⟨cb, 0, none⟩), .int .i64 0]) ∧ QIs w' cb n E.length E ft' ∧ (∀ k, ft' k → w.heap.size ≤ k) ∧ Fr0 none' w w' := callsIn_wide.1 (QCopy_in h)
end Go.Proofs.YtieeloealklkgaaGreat

/-
  calendar: do with a queue.
-/
namespace Go.Proofs.YtieeloealklkgaaGreat
open Go Go.RowKit Go.ChangeMaps
attribute [local go_sem ↓] Go.wp_at_zero Go.wp_at_succ
attribute [local go_sem] Oper.semAt_some wide_fn wide_depth wide_fnR wide_depthR

theorem ownsRow_heap {w w' : World} {base : Nat} {e : TypeId} {size : Nat} {v : Value} {n : Nat} {xs : List Value} (h : w.ownsRow base e size v n xs) (hh : w'.heap = w.heap) : w'.ownsRow base e size v n xs := by
 refine ⟨h.1, h.2.imp id ?_⟩
 rintro ⟨g, cap, cur, e1, e2, e3, e4, e5, e6, e7⟩
 exact ⟨g, cap, cur, e1, e2, hh.symm ▸ e3, e4, e5, e6, e7⟩
theorem HeapIn.heap {w w' : World} {hb ba n ca : Nat} {v : Value} {t : List Ent} {A : List Nat} (h : HeapIn w hb ba v n ca t A) (e : w'.heap = w.heap) : HeapIn w' hb ba v n ca t A := by
 refine ⟨by rw [e]; exact h.hd, ownsRow_heap h.tr e, ?_, h.n1, h.n2⟩
 obtain ⟨cur, h1, h2⟩ := h.tb
 exact ⟨cur, by rw [e]; exact h1, h2⟩
theorem HeapIs.heap {w w' : World} {hb ba n : Nat} {v : Value} {L : List Ent} (h : HeapIs w hb ba v n L) (e : w'.heap = w.heap) : HeapIs w' hb ba v n L := by
 obtain ⟨ca, t, A, h1, h2⟩ := h.some
 exact ⟨⟨ca, t, A, h1.heap e, h2⟩, h.sorted, h.once, h.place, h.size⟩
theorem QIn.heap {w w' : World} {qb sb pb hb ba eb mb n T : Nat} {hv : Value} {X : List Pd} {F : List Nat} {P : List Pl} {first : Int} {V : List Ev} (h : QIn w qb sb pb hb ba eb mb hv n T X F P first V) (e : w'.heap = w.heap) : QIn w' qb sb pb hb ba eb mb hv n T X F P first V :=
 { h with
  hd := by rw [e]; exact h.hd
  sl := ⟨by rw [e]; exact h.sl.hd, by rw [e]; exact h.sl.pl, h.sl.len, h.sl.ne⟩
  hp := h.hp.heap e
  ev := by rw [e]; exact h.ev
  nm := by
   obtain ⟨D, ⟨es, clock, h1, h2⟩, h3⟩ := h.nm
   exact ⟨D, ⟨es, clock, by rw [e]; exact h1, h2⟩, h3⟩ }
/-- A queue outlives whatever keeps its blocks. -/
theorem QIs.kept {w W : World} {qb n T : Nat} {E : List Ev} {ft : Nat → Prop} (h : QIs w qb n T E ft) (hs : w.heap.size ≤ W.heap.size) (hk : ∀ k, ft k → W.heap[k]? = w.heap[k]?) : QIs W qb n T E ft := by
 obtain ⟨W0, hW0⟩ : ∃ W0 : World, W0 = { W with os := w.os, tape := w.tape, output := w.output } := ⟨_, rfl⟩
 have hf : Fr0 (fun k => ¬ ft k) w W0 := by
  subst hW0
  exact ⟨rfl, rfl, rfl, hs, fun k _ hn => hk k (Classical.not_not.1 hn)⟩
 have h0 := h.fr0 hf (fun k h1 h2 => h2 h1)
 have hh : W.heap = W0.heap := by rw [hW0]
 obtain ⟨sb, pb, hb, ba, eb, mb, hv, X, F, P, first, V, h1, h2, h3, h4⟩ := h0
 exact ⟨sb, pb, hb, ba, eb, mb, hv, X, F, P, first, V, h1.heap hh, h2, h3, fun k hk => by rw [hh]; exact h4 k hk⟩
section
variable {w : World} {qb n T : Nat} {E : List Ev} {ft : Nat → Prop}
theorem QIs.cput (h : QIs w qb n T E ft) (hT : T + 1 < 4294967295) (x : Ev) :
  Calls Tryz.prog 27 #[.pointer (some ⟨qb, 0, none⟩), evV x] w fun e w' => e = .returned (.int .i64 (allV n E [x]).2) ∧ ∃ ft', QIs w' qb n (T + 1) (allE n E [x]) ft' ∧ (∀ k, ft' k → ft k ∨ w.heap.size ≤ k) ∧ Fr0 ft w w' := by
 refine (h.put1 x hT).mono ?_
 rintro e w' ⟨rfl, h1, h2⟩
 exact ⟨rfl, _, h1, fun k hk => hk.imp id (fun g => g.1), h2⟩
theorem QIs.ctake (h : QIs w qb n T E ft) (hT : T + 1 < 4294967295) :
  Calls Tryz.prog 156 #[.pointer (some ⟨qb, 0, none⟩)] w fun e w' => e = .returned (.tuple #[evV (takeC E).2.first, .int .i64 (takeC E).2.err]) ∧ ∃ ft', QIs w' qb n (T + 1) (takeC E).1 ft' ∧ (∀ k, ft' k → ft k ∨ w.heap.size ≤ k) ∧ Fr0 ft w w' := by
 refine (h.take (by omega)).mono ?_
 rintro e w' ⟨rfl, h1, h2⟩
 have h1 := h1.mono (Nat.le_succ T)
 cases E with
 | nil => exact ⟨rfl, _, h1, fun k hk => hk.imp id (fun g => g.1), h2⟩
 | cons x r => exact ⟨by rw [if_neg (by simp)]; rfl, _, h1, fun k hk => hk.imp id (fun g => g.1), h2⟩
theorem QIs.ccancel (h : QIs w qb n T E ft) (hT : T + 1 < 4294967295) (p : Int × Int) (h1 : I64 p.1) (h2 : I64 p.2) :
  Calls Tryz.prog 153 #[.pointer (some ⟨qb, 0, none⟩), .int .i64 p.1, .int .i64 p.2] w fun e w' => e = .returned (.tuple #[evV (cancelC p E).2.first, .int .i64 (cancelC p E).2.err]) ∧ ∃ ft', QIs w' qb n (T + 1) (cancelC p E).1 ft' ∧ (∀ k, ft' k → ft k ∨ w.heap.size ≤ k) ∧ Fr0 ft w w' := by
 refine (h.cancel h1 h2 (by omega)).mono ?_
 rintro e w' ⟨rfl, h1, h2⟩
 have h1 := h1.mono (Nat.le_succ T)
 unfold cancelC
 cases hf : findE p E with
 | none =>
  rw [delE_none (findE_none.1 hf)] at h1
  exact ⟨rfl, _, h1, fun k hk => hk.imp id (fun g => g.1), h2⟩
 | some x => exact ⟨rfl, _, h1, fun k hk => hk.imp id (fun g => g.1), h2⟩
theorem QIs.cbefore (h : QIs w qb n T E ft) (hT : T + 1 < 4294967295) (t : Int) :
  Calls Tryz.prog 157 #[.pointer (some ⟨qb, 0, none⟩), .int .i64 t] w fun e w' => ∃ v ft', e = .returned v ∧ w'.ownsRow w.heap.size 30 5 v (befE t E).length (flatEv (befE t E)) ∧ QIs w' qb n (T + 1) (aftE t E) ft' ∧ (∀ k, ft' k → ft k ∨ w.heap.size ≤ k) ∧ (∀ g, v.ownBlock = some g → ¬ ft' g) ∧ Fr0 ft w w' := by
 refine (h.takeBefore t (by omega)).mono ?_
 rintro e w' ⟨v, ft', rfl, h1, h2, h3⟩
 exact ⟨v, ft', rfl, h1, h2.mono (Nat.le_succ T), h3⟩
theorem QIs.cclear (h : QIs w qb n T E ft) (hT : T + 1 < 4294967295) :
  Calls Tryz.prog 154 #[.pointer (some ⟨qb, 0, none⟩)] w fun e w' => e = .returned (.tuple #[.int .i64 (E.length : Nat), .int .i64 0]) ∧ ∃ ft', QIs w' qb n (T + 1) [] ft' ∧ (∀ k, ft' k → ft k ∨ w.heap.size ≤ k) ∧ Fr0 ft w w' := by
 refine (h.clear (by omega)).mono ?_
 rintro e w' ⟨rfl, h1, h2⟩
 exact ⟨rfl, _, h1.mono (Nat.le_succ T), fun k hk => hk.imp id (fun g => g.1), h2⟩
end
set_option maxRecDepth 100000 in
set_option maxHeartbeats 2000000 in
theorem do_queue1 {w : World} {qb n T : Nat} {E : List Ev} {ft : Nat → Prop} (h : QIs w qb n T E ft) (hT : T + 1 < 4294967295) (x : Ev) (t : Int) :
  Calls Tryz.prog 70 #[.iface 37 (.pointer (some ⟨qb, 0, none⟩)), actCV ⟨1, x, t⟩] w (DoT w ft (doC n E ⟨1, x, t⟩).2 (fun ft' w' => QIs w' qb n (T + 1) (doC n E ⟨1, x, t⟩).1 ft')) := by
 have H := Lib.hid h
 clear h
 unfold actCV doC
 rw [if_pos rfl]
 obtain ⟨V1, hV1⟩ : ∃ V, w.alloc (.cells #[.int .u8 1, .int .i64 x.key.time, .int .i64 x.key.source, .int .i64 x.key.seq, .int .i64 x.to, .int .i64 x.value, .int .i64 t] 33) = V := ⟨_, rfl⟩
 have z1 : V1.heap.size = w.heap.size + 1 := by rw [← hV1, World.size_alloc]
 have f1 : Fr0 none' w V1 := by rw [← hV1]; exact (Fr0.refl _ _).alloc _
 have a1 : V1.heap[w.heap.size]? = some (.cells #[.int .u8 1, .int .i64 x.key.time, .int .i64 x.key.source, .int .i64 x.key.seq, .int .i64 x.to, .int .i64 x.value, .int .i64 t] 33 (0, 0)) := by rw [← hV1]; exact World.alloc_heap_new _ _
 obtain ⟨V2, hV2⟩ : ∃ V, V1.alloc (.cells #[.int .i64 0, .slice none 0 0] 56) = V := ⟨_, rfl⟩
 have f2 : Fr0 none' V1 V2 := by rw [← hV2]; exact (Fr0.refl _ _).alloc _
 have b2 : V2.heap[w.heap.size + 1]? = some (.cells #[.int .i64 0, .slice none 0 0] 56 (0, 0)) := by rw [← hV2, ← z1]; exact World.alloc_heap_new _ _
 have a2 := (f2.block w.heap.size (by omega) id).trans a1
 have Z2 := Lib.hid (show V2.heap.size = w.heap.size + 2 by rw [← hV2, World.size_alloc, z1])
 have F2 := Lib.hid (f1.trans f2)
 have B2 := Lib.hid b2
 have A2 := Lib.hid a2
 have H2 := Lib.hid (H.out.later F2.out)
 have HRB := Lib.hid (show ∀ k, ft k → k < w.heap.size from H.out.lt)
 clear f1 a1 f2 b2 a2 z1
 have HP := Lib.hid (H2.out.cput hT x)
 obtain ⟨c, hc⟩ : ∃ c, (allV n E [x]).2 = c := ⟨_, rfl⟩
 rw [hc] at HP
 have Hc := Lib.hid hc
 clear hc
 unfold evV at HP
 subst hV2
 subst hV1
 go_enter Tryz.func70, Tryz.ntmps70
 go_wp2_with fail
 refine HP.out.mono ?_
 rintro e w3 ⟨rfl, ft', hl, hft, hf⟩
 have b3 := (hf.block (w.heap.size + 1) (Array.getElem?_eq_some_iff.1 B2.out).1 (fun hk => by have := HRB.out _ hk; omega)).trans B2.out
 have t0 := thaw_in b3 0
 have t1 := thaw_in b3 1
 have u0 := cells_in b3 0
 have u1 := cells_in b3 1
 simp at u0 u1
 have B3 := Lib.hid b3
 clear b3
 have HL := Lib.hid hl
 have HF := Lib.hid hf
 have HT := Lib.hid hft
 clear hl hf hft
 go_wp2_with fail
 have e6 : ((w3.setCell ⟨w.heap.size + 1, 0, none⟩ (.int .i64 c)).setCell ⟨w.heap.size + 1, 1, none⟩ (.slice none 0 0)).heap[w.heap.size + 1]? = some (.cells #[.int .i64 c, .slice none 0 0] 56 (0, 0)) := heap_set_cell (heap_set_cell B3.out _) _
 have f6 : Fr0 (fun k => k = w.heap.size + 1) w3 ((w3.setCell ⟨w.heap.size + 1, 0, none⟩ (.int .i64 c)).setCell ⟨w.heap.size + 1, 1, none⟩ (.slice none 0 0)) := ((Fr0.refl (fun k => k = w.heap.size + 1) w3).setCell (fun _ => rfl) _).setCell (fun _ => rfl) _
 generalize (w3.setCell ⟨w.heap.size + 1, 0, none⟩ (.int .i64 c)).setCell ⟨w.heap.size + 1, 1, none⟩ (.slice none 0 0) = VV at e6 f6 ⊢
 have y0 := cells_in e6 0
 have y1 := cells_in e6 1
 simp at y0 y1
 have hne : ∀ k, ft' k → ¬ (k = w.heap.size + 1) := fun k hk e => by
  rcases HT.out k hk with h | h
  ·have := HRB.out k h; omega
  ·have := Z2.out; omega
 have hft9 : ∀ k, ft' k → ft k ∨ w.heap.size ≤ k := fun k hk => (HT.out k hk).imp id (fun h => by have := Z2.out; omega)
 have hfr9 : Fr0 ft w VV := ((F2.out.mono (S' := ft) (fun _ _ h => h.elim)).trans HF.out).trans' f6 (fun k hk e => by have e : k = w.heap.size + 1 := e; omega)
 exact bodyPost_ret (v := .agg #[.int .i64 c, .slice none 0 0]) (by simp [results, Tryz.results70, go_sem, y0, y1]) rfl ⟨.slice none 0 0, ft', by rw [Hc.out], World.ownsRow_nil _ _ _ _, HL.out.fr0 f6 hne, hft9, (fun g e => by cases e), hfr9⟩
set_option maxRecDepth 100000 in
set_option maxHeartbeats 2000000 in
theorem do_queue2 {w : World} {qb n T : Nat} {E : List Ev} {ft : Nat → Prop} (h : QIs w qb n T E ft) (hT : T + 1 < 4294967295) (x : Ev) (t : Int) :
  Calls Tryz.prog 70 #[.iface 37 (.pointer (some ⟨qb, 0, none⟩)), actCV ⟨2, x, t⟩] w (DoT w ft (doC n E ⟨2, x, t⟩).2 (fun ft' w' => QIs w' qb n (T + 1) (doC n E ⟨2, x, t⟩).1 ft')) := by
 have H := Lib.hid h
 clear h
 have hdo : doC n E ⟨2, x, t⟩ = takeC E := by unfold doC; simp
 rw [hdo]
 clear hdo
 unfold actCV
 obtain ⟨V1, hV1⟩ : ∃ V, w.alloc (.cells #[.int .u8 2, .int .i64 x.key.time, .int .i64 x.key.source, .int .i64 x.key.seq, .int .i64 x.to, .int .i64 x.value, .int .i64 t] 33) = V := ⟨_, rfl⟩
 have z1 : V1.heap.size = w.heap.size + 1 := by rw [← hV1, World.size_alloc]
 have f1 : Fr0 none' w V1 := by rw [← hV1]; exact (Fr0.refl _ _).alloc _
 have a1 : V1.heap[w.heap.size]? = some (.cells #[.int .u8 2, .int .i64 x.key.time, .int .i64 x.key.source, .int .i64 x.key.seq, .int .i64 x.to, .int .i64 x.value, .int .i64 t] 33 (0, 0)) := by rw [← hV1]; exact World.alloc_heap_new _ _
 obtain ⟨V2, hV2⟩ : ∃ V, V1.alloc (.cells #[.int .i64 0, .slice none 0 0] 56) = V := ⟨_, rfl⟩
 have f2 : Fr0 none' V1 V2 := by rw [← hV2]; exact (Fr0.refl _ _).alloc _
 have b2 : V2.heap[w.heap.size + 1]? = some (.cells #[.int .i64 0, .slice none 0 0] 56 (0, 0)) := by rw [← hV2, ← z1]; exact World.alloc_heap_new _ _
 have a2 := (f2.block w.heap.size (by omega) id).trans a1
 have Z2 := Lib.hid (show V2.heap.size = w.heap.size + 2 by rw [← hV2, World.size_alloc, z1])
 have F2 := Lib.hid (f1.trans f2)
 have B2 := Lib.hid b2
 have A2 := Lib.hid a2
 have H2 := Lib.hid (H.out.later F2.out)
 have HRB := Lib.hid (show ∀ k, ft k → k < w.heap.size from H.out.lt)
 clear f1 a1 f2 b2 a2 z1
 have HP := Lib.hid (H2.out.ctake hT)
 have ht := (takeC_one E)
 obtain ⟨R, hR⟩ : ∃ R, takeC E = R := ⟨_, rfl⟩
 rw [hR] at HP ht ⊢
 clear hR
 have HO := Lib.hid (fun W => one_told ht W)
 clear ht
 have HPP := HP
 unfold evV at HP HO
 skip
 subst hV2
 subst hV1
 go_enter Tryz.func70, Tryz.ntmps70
 go_wp2_with fail
 refine HP.out.mono ?_
 rintro e w3 ⟨rfl, ft', hl, hft, hf⟩
 have HL := Lib.hid hl
 have HT := Lib.hid hft
 have HL3 := Lib.hid (show ∀ k, ft' k → k < w3.heap.size from hl.lt)
 have HF := Lib.hid hf
 clear hl hft hf
 go_wp2_with fail
 refine (HO.out w3).mono ?_
 rintro e w4 ⟨v, rfl, hrow, hf4⟩
 have HF4 := Lib.hid (HF.out.trans' hf4 (fun _ _ h => h.elim))
 have b3 := (HF4.out.block (w.heap.size + 1) (Array.getElem?_eq_some_iff.1 B2.out).1 (fun hk => by have := HRB.out _ hk; omega)).trans B2.out
 have t0 := thaw_in b3 0
 have t1 := thaw_in b3 1
 have u0 := cells_in b3 0
 have u1 := cells_in b3 1
 simp at u0 u1
 have B3 := Lib.hid b3
 clear b3
 have HR := Lib.hid hrow
 have HL := Lib.hid (HL.out.later hf4)
 have HS := Lib.hid HF.out.size
 obtain ⟨ra, rc, hv, _, _⟩ := EsIn.of_own hrow
 clear hrow hf4
 subst hv
 go_wp2_with fail
 have e6 : ((w4.setCell ⟨w.heap.size + 1, 0, none⟩ (.int .i64 R.2.err)).setCell ⟨w.heap.size + 1, 1, none⟩ (.slice ra R.2.evs.length rc)).heap[w.heap.size + 1]? = some (.cells #[.int .i64 R.2.err, .slice ra R.2.evs.length rc] 56 (0, 0)) := heap_set_cell (heap_set_cell B3.out _) _
 have f6 : Fr0 (fun k => k = w.heap.size + 1) w4 ((w4.setCell ⟨w.heap.size + 1, 0, none⟩ (.int .i64 R.2.err)).setCell ⟨w.heap.size + 1, 1, none⟩ (.slice ra R.2.evs.length rc)) := ((Fr0.refl (fun k => k = w.heap.size + 1) w4).setCell (fun _ => rfl) _).setCell (fun _ => rfl) _
 generalize (w4.setCell ⟨w.heap.size + 1, 0, none⟩ (.int .i64 R.2.err)).setCell ⟨w.heap.size + 1, 1, none⟩ (.slice ra R.2.evs.length rc) = VV at e6 f6 ⊢
 have y0 := cells_in e6 0
 have y1 := cells_in e6 1
 simp at y0 y1
 have hs3 : w.heap.size + 2 ≤ w3.heap.size := by have := Z2.out; have := HS.out; omega
 have hne : ∀ k, ft' k → ¬ (k = w.heap.size + 1) := fun k hk e => by
  rcases HT.out k hk with h | h
  ·have := HRB.out k h; omega
  ·have := Z2.out; omega
 have hft9 : ∀ k, ft' k → ft k ∨ w.heap.size ≤ k := fun k hk => (HT.out k hk).imp id (fun h => by have := Z2.out; omega)
 have hfr9 : Fr0 ft w VV := ((F2.out.mono (S' := ft) (fun _ _ h => h.elim)).trans HF4.out).trans' f6 (fun k hk e => by have e : k = w.heap.size + 1 := e; omega)
 have hrow9 : VV.ownsRow w.heap.size 30 5 (.slice ra R.2.evs.length rc) R.2.evs.length (flatEv R.2.evs) := ownsRow_k_mono (ownsRow_fr0 HR.out f6 (fun g hg e => by have := (HR.out.lt g hg).1; have e : g = w.heap.size + 1 := e; omega)) (by omega)
 exact bodyPost_ret (v := .agg #[.int .i64 R.2.err, .slice ra R.2.evs.length rc]) (by simp [results, Tryz.results70, go_sem, y0, y1]) rfl ⟨_, ft', rfl, hrow9, HL.out.fr0 f6 hne, hft9, (fun g hg hk => by have := (HR.out.lt g hg).1; have := HL3.out g hk; omega), hfr9⟩
set_option maxRecDepth 100000 in
set_option maxHeartbeats 2000000 in
theorem do_queue4 {w : World} {qb n T : Nat} {E : List Ev} {ft : Nat → Prop} (h : QIs w qb n T E ft) (hT : T + 1 < 4294967295) (x : Ev) (hi : I64 x.name.1 ∧ I64 x.name.2) (t : Int) :
  Calls Tryz.prog 70 #[.iface 37 (.pointer (some ⟨qb, 0, none⟩)), actCV ⟨4, x, t⟩] w (DoT w ft (doC n E ⟨4, x, t⟩).2 (fun ft' w' => QIs w' qb n (T + 1) (doC n E ⟨4, x, t⟩).1 ft')) := by
 have H := Lib.hid h
 clear h
 have hdo : doC n E ⟨4, x, t⟩ = cancelC x.name E := by unfold doC; simp
 rw [hdo]
 clear hdo
 unfold actCV
 obtain ⟨V1, hV1⟩ : ∃ V, w.alloc (.cells #[.int .u8 4, .int .i64 x.key.time, .int .i64 x.key.source, .int .i64 x.key.seq, .int .i64 x.to, .int .i64 x.value, .int .i64 t] 33) = V := ⟨_, rfl⟩
 have z1 : V1.heap.size = w.heap.size + 1 := by rw [← hV1, World.size_alloc]
 have f1 : Fr0 none' w V1 := by rw [← hV1]; exact (Fr0.refl _ _).alloc _
 have a1 : V1.heap[w.heap.size]? = some (.cells #[.int .u8 4, .int .i64 x.key.time, .int .i64 x.key.source, .int .i64 x.key.seq, .int .i64 x.to, .int .i64 x.value, .int .i64 t] 33 (0, 0)) := by rw [← hV1]; exact World.alloc_heap_new _ _
 obtain ⟨V2, hV2⟩ : ∃ V, V1.alloc (.cells #[.int .i64 0, .slice none 0 0] 56) = V := ⟨_, rfl⟩
 have f2 : Fr0 none' V1 V2 := by rw [← hV2]; exact (Fr0.refl _ _).alloc _
 have b2 : V2.heap[w.heap.size + 1]? = some (.cells #[.int .i64 0, .slice none 0 0] 56 (0, 0)) := by rw [← hV2, ← z1]; exact World.alloc_heap_new _ _
 have a2 := (f2.block w.heap.size (by omega) id).trans a1
 have Z2 := Lib.hid (show V2.heap.size = w.heap.size + 2 by rw [← hV2, World.size_alloc, z1])
 have F2 := Lib.hid (f1.trans f2)
 have B2 := Lib.hid b2
 have A2 := Lib.hid a2
 have H2 := Lib.hid (H.out.later F2.out)
 have HRB := Lib.hid (show ∀ k, ft k → k < w.heap.size from H.out.lt)
 clear f1 a1 f2 b2 a2 z1
 have HP := Lib.hid (H2.out.ccancel hT x.name hi.1 hi.2)
 have ht := (cancelC_one x.name E)
 obtain ⟨R, hR⟩ : ∃ R, cancelC x.name E = R := ⟨_, rfl⟩
 rw [hR] at HP ht ⊢
 clear hR
 have HO := Lib.hid (fun W => one_told ht W)
 clear ht
 have HPP := HP
 unfold evV at HP HO
 unfold Ev.name at HP
 subst hV2
 subst hV1
 go_enter Tryz.func70, Tryz.ntmps70
 go_wp2_with fail
 refine HP.out.mono ?_
 rintro e w3 ⟨rfl, ft', hl, hft, hf⟩
 have HL := Lib.hid hl
 have HT := Lib.hid hft
 have HL3 := Lib.hid (show ∀ k, ft' k → k < w3.heap.size from hl.lt)
 have HF := Lib.hid hf
 clear hl hft hf
 go_wp2_with fail
 refine (HO.out w3).mono ?_
 rintro e w4 ⟨v, rfl, hrow, hf4⟩
 have HF4 := Lib.hid (HF.out.trans' hf4 (fun _ _ h => h.elim))
 have b3 := (HF4.out.block (w.heap.size + 1) (Array.getElem?_eq_some_iff.1 B2.out).1 (fun hk => by have := HRB.out _ hk; omega)).trans B2.out
 have t0 := thaw_in b3 0
 have t1 := thaw_in b3 1
 have u0 := cells_in b3 0
 have u1 := cells_in b3 1
 simp at u0 u1
 have B3 := Lib.hid b3
 clear b3
 have HR := Lib.hid hrow
 have HL := Lib.hid (HL.out.later hf4)
 have HS := Lib.hid HF.out.size
 obtain ⟨ra, rc, hv, _, _⟩ := EsIn.of_own hrow
 clear hrow hf4
 subst hv
 go_wp2_with fail
 have e6 : ((w4.setCell ⟨w.heap.size + 1, 0, none⟩ (.int .i64 R.2.err)).setCell ⟨w.heap.size + 1, 1, none⟩ (.slice ra R.2.evs.length rc)).heap[w.heap.size + 1]? = some (.cells #[.int .i64 R.2.err, .slice ra R.2.evs.length rc] 56 (0, 0)) := heap_set_cell (heap_set_cell B3.out _) _
 have f6 : Fr0 (fun k => k = w.heap.size + 1) w4 ((w4.setCell ⟨w.heap.size + 1, 0, none⟩ (.int .i64 R.2.err)).setCell ⟨w.heap.size + 1, 1, none⟩ (.slice ra R.2.evs.length rc)) := ((Fr0.refl (fun k => k = w.heap.size + 1) w4).setCell (fun _ => rfl) _).setCell (fun _ => rfl) _
 generalize (w4.setCell ⟨w.heap.size + 1, 0, none⟩ (.int .i64 R.2.err)).setCell ⟨w.heap.size + 1, 1, none⟩ (.slice ra R.2.evs.length rc) = VV at e6 f6 ⊢
 have y0 := cells_in e6 0
 have y1 := cells_in e6 1
 simp at y0 y1
 have hs3 : w.heap.size + 2 ≤ w3.heap.size := by have := Z2.out; have := HS.out; omega
 have hne : ∀ k, ft' k → ¬ (k = w.heap.size + 1) := fun k hk e => by
  rcases HT.out k hk with h | h
  ·have := HRB.out k h; omega
  ·have := Z2.out; omega
 have hft9 : ∀ k, ft' k → ft k ∨ w.heap.size ≤ k := fun k hk => (HT.out k hk).imp id (fun h => by have := Z2.out; omega)
 have hfr9 : Fr0 ft w VV := ((F2.out.mono (S' := ft) (fun _ _ h => h.elim)).trans HF4.out).trans' f6 (fun k hk e => by have e : k = w.heap.size + 1 := e; omega)
 have hrow9 : VV.ownsRow w.heap.size 30 5 (.slice ra R.2.evs.length rc) R.2.evs.length (flatEv R.2.evs) := ownsRow_k_mono (ownsRow_fr0 HR.out f6 (fun g hg e => by have := (HR.out.lt g hg).1; have e : g = w.heap.size + 1 := e; omega)) (by omega)
 exact bodyPost_ret (v := .agg #[.int .i64 R.2.err, .slice ra R.2.evs.length rc]) (by simp [results, Tryz.results70, go_sem, y0, y1]) rfl ⟨_, ft', rfl, hrow9, HL.out.fr0 f6 hne, hft9, (fun g hg hk => by have := (HR.out.lt g hg).1; have := HL3.out g hk; omega), hfr9⟩
set_option maxRecDepth 100000 in
set_option maxHeartbeats 2000000 in
theorem do_queue3 {w : World} {qb n T : Nat} {E : List Ev} {ft : Nat → Prop} (h : QIs w qb n T E ft) (hT : T + 1 < 4294967295) (x : Ev) (t : Int) :
  Calls Tryz.prog 70 #[.iface 37 (.pointer (some ⟨qb, 0, none⟩)), actCV ⟨3, x, t⟩] w (DoT w ft (doC n E ⟨3, x, t⟩).2 (fun ft' w' => QIs w' qb n (T + 1) (doC n E ⟨3, x, t⟩).1 ft')) := by
 have H := Lib.hid h
 clear h
 have hdo : doC n E ⟨3, x, t⟩ = (aftE t E, ⟨0, befE t E⟩) := by unfold doC; simp
 rw [hdo]
 clear hdo
 unfold actCV
 obtain ⟨V1, hV1⟩ : ∃ V, w.alloc (.cells #[.int .u8 3, .int .i64 x.key.time, .int .i64 x.key.source, .int .i64 x.key.seq, .int .i64 x.to, .int .i64 x.value, .int .i64 t] 33) = V := ⟨_, rfl⟩
 have z1 : V1.heap.size = w.heap.size + 1 := by rw [← hV1, World.size_alloc]
 have f1 : Fr0 none' w V1 := by rw [← hV1]; exact (Fr0.refl _ _).alloc _
 have a1 : V1.heap[w.heap.size]? = some (.cells #[.int .u8 3, .int .i64 x.key.time, .int .i64 x.key.source, .int .i64 x.key.seq, .int .i64 x.to, .int .i64 x.value, .int .i64 t] 33 (0, 0)) := by rw [← hV1]; exact World.alloc_heap_new _ _
 obtain ⟨V2, hV2⟩ : ∃ V, V1.alloc (.cells #[.int .i64 0, .slice none 0 0] 56) = V := ⟨_, rfl⟩
 have f2 : Fr0 none' V1 V2 := by rw [← hV2]; exact (Fr0.refl _ _).alloc _
 have b2 : V2.heap[w.heap.size + 1]? = some (.cells #[.int .i64 0, .slice none 0 0] 56 (0, 0)) := by rw [← hV2, ← z1]; exact World.alloc_heap_new _ _
 have a2 := (f2.block w.heap.size (by omega) id).trans a1
 have Z2 := Lib.hid (show V2.heap.size = w.heap.size + 2 by rw [← hV2, World.size_alloc, z1])
 have F2 := Lib.hid (f1.trans f2)
 have B2 := Lib.hid b2
 have A2 := Lib.hid a2
 have H2 := Lib.hid (H.out.later F2.out)
 have HRB := Lib.hid (show ∀ k, ft k → k < w.heap.size from H.out.lt)
 clear f1 a1 f2 b2 a2 z1
 have HP := Lib.hid (H2.out.cbefore hT t)
 subst hV2
 subst hV1
 go_enter Tryz.func70, Tryz.ntmps70
 go_wp2_with fail
 refine HP.out.mono ?_
 rintro e w3 ⟨v, ft', rfl, hrow, hl, hft, hd, hf⟩
 have b3 := (hf.block (w.heap.size + 1) (Array.getElem?_eq_some_iff.1 B2.out).1 (fun hk => by have := HRB.out _ hk; omega)).trans B2.out
 have t0 := thaw_in b3 0
 have t1 := thaw_in b3 1
 have u0 := cells_in b3 0
 have u1 := cells_in b3 1
 simp at u0 u1
 have B3 := Lib.hid b3
 clear b3
 have HL := Lib.hid hl
 have HF := Lib.hid hf
 have HT := Lib.hid hft
 have HR := Lib.hid hrow
 have HD := Lib.hid hd
 obtain ⟨ra, rc, hv, _, _⟩ := EsIn.of_own hrow
 obtain ⟨m, hm⟩ : ∃ m, (befE t E).length = m := ⟨_, rfl⟩
 have Hm := Lib.hid hm
 rw [hm] at hv
 clear hrow hl hf hft hd hm
 subst hv
 go_wp2_with fail
 have e6 : ((w3.setCell ⟨w.heap.size + 1, 0, none⟩ (.int .i64 0)).setCell ⟨w.heap.size + 1, 1, none⟩ (.slice ra m rc)).heap[w.heap.size + 1]? = some (.cells #[.int .i64 0, .slice ra m rc] 56 (0, 0)) := heap_set_cell (heap_set_cell B3.out _) _
 have f6 : Fr0 (fun k => k = w.heap.size + 1) w3 ((w3.setCell ⟨w.heap.size + 1, 0, none⟩ (.int .i64 0)).setCell ⟨w.heap.size + 1, 1, none⟩ (.slice ra m rc)) := ((Fr0.refl (fun k => k = w.heap.size + 1) w3).setCell (fun _ => rfl) _).setCell (fun _ => rfl) _
 generalize (w3.setCell ⟨w.heap.size + 1, 0, none⟩ (.int .i64 0)).setCell ⟨w.heap.size + 1, 1, none⟩ (.slice ra m rc) = VV at e6 f6 ⊢
 have y0 := cells_in e6 0
 have y1 := cells_in e6 1
 simp at y0 y1
 have hne : ∀ k, ft' k → ¬ (k = w.heap.size + 1) := fun k hk e => by
  rcases HT.out k hk with h | h
  ·have := HRB.out k h; omega
  ·have := Z2.out; omega
 have hft9 : ∀ k, ft' k → ft k ∨ w.heap.size ≤ k := fun k hk => (HT.out k hk).imp id (fun h => by have := Z2.out; omega)
 have hfr9 : Fr0 ft w VV := ((F2.out.mono (S' := ft) (fun _ _ h => h.elim)).trans HF.out).trans' f6 (fun k hk e => by have e : k = w.heap.size + 1 := e; omega)
 have hrow9 : VV.ownsRow w.heap.size 30 5 (.slice ra m rc) (befE t E).length (flatEv (befE t E)) := ownsRow_k_mono (ownsRow_fr0 HR.out f6 (fun g hg e => by have := (HR.out.lt g hg).1; have := Z2.out; have e : g = w.heap.size + 1 := e; omega)) (by have := Z2.out; omega)
 exact bodyPost_ret (v := .agg #[.int .i64 0, .slice ra m rc]) (by simp [results, Tryz.results70, go_sem, y0, y1]) rfl ⟨_, ft', rfl, hrow9, HL.out.fr0 f6 hne, hft9, HD.out, hfr9⟩
set_option maxRecDepth 100000 in
set_option maxHeartbeats 2000000 in
theorem do_queue5 {w : World} {qb n T : Nat} {E : List Ev} {ft : Nat → Prop} (h : QIs w qb n T E ft) (hT : T + 1 < 4294967295) (x : Ev) (t : Int) :
  Calls Tryz.prog 70 #[.iface 37 (.pointer (some ⟨qb, 0, none⟩)), actCV ⟨5, x, t⟩] w (DoT w ft (doC n E ⟨5, x, t⟩).2 (fun ft' w' => QIs w' qb n (T + 1) (doC n E ⟨5, x, t⟩).1 ft')) := by
 have H := Lib.hid h
 clear h
 have hdo : doC n E ⟨5, x, t⟩ = ([], ⟨0, E⟩) := by unfold doC; simp
 rw [hdo]
 clear hdo
 unfold actCV
 obtain ⟨V1, hV1⟩ : ∃ V, w.alloc (.cells #[.int .u8 5, .int .i64 x.key.time, .int .i64 x.key.source, .int .i64 x.key.seq, .int .i64 x.to, .int .i64 x.value, .int .i64 t] 33) = V := ⟨_, rfl⟩
 have z1 : V1.heap.size = w.heap.size + 1 := by rw [← hV1, World.size_alloc]
 have f1 : Fr0 none' w V1 := by rw [← hV1]; exact (Fr0.refl _ _).alloc _
 have a1 : V1.heap[w.heap.size]? = some (.cells #[.int .u8 5, .int .i64 x.key.time, .int .i64 x.key.source, .int .i64 x.key.seq, .int .i64 x.to, .int .i64 x.value, .int .i64 t] 33 (0, 0)) := by rw [← hV1]; exact World.alloc_heap_new _ _
 obtain ⟨V2, hV2⟩ : ∃ V, V1.alloc (.cells #[.int .i64 0, .slice none 0 0] 56) = V := ⟨_, rfl⟩
 have f2 : Fr0 none' V1 V2 := by rw [← hV2]; exact (Fr0.refl _ _).alloc _
 have b2 : V2.heap[w.heap.size + 1]? = some (.cells #[.int .i64 0, .slice none 0 0] 56 (0, 0)) := by rw [← hV2, ← z1]; exact World.alloc_heap_new _ _
 have a2 := (f2.block w.heap.size (by omega) id).trans a1
 have Z2 := Lib.hid (show V2.heap.size = w.heap.size + 2 by rw [← hV2, World.size_alloc, z1])
 have F2 := Lib.hid (f1.trans f2)
 have B2 := Lib.hid b2
 have A2 := Lib.hid a2
 have H2 := Lib.hid (H.out.later F2.out)
 have HRB := Lib.hid (show ∀ k, ft k → k < w.heap.size from H.out.lt)
 clear f1 a1 f2 b2 a2 z1
 have HP := Lib.hid (H2.out.all)
 subst hV2
 subst hV1
 go_enter Tryz.func70, Tryz.ntmps70
 go_wp2_with fail
 refine HP.out.mono ?_
 rintro e w3 ⟨v, rfl, hrow, hf⟩
 have HL := Lib.hid (H2.out.later hf)
 have HF := Lib.hid hf
 have HW3 := Lib.hid hf.size
 have HR := Lib.hid hrow
 clear hrow hf
 go_wp2_with fail
 refine (HL.out.cclear hT).mono ?_
 rintro e w4 ⟨rfl, ft', hl, hft, hf4⟩
 have HT := Lib.hid hft
 have HF4 := Lib.hid ((HF.out.mono (S' := ft) (fun _ _ h => h.elim)).trans hf4)
 have b3 := (HF4.out.block (w.heap.size + 1) (Array.getElem?_eq_some_iff.1 B2.out).1 (fun hk => by have := HRB.out _ hk; omega)).trans B2.out
 have t0 := thaw_in b3 0
 have t1 := thaw_in b3 1
 have u0 := cells_in b3 0
 have u1 := cells_in b3 1
 simp at u0 u1
 have B3 := Lib.hid b3
 clear b3
 have hng : ∀ g, v.ownBlock = some g → ¬ ft g := fun g hg hk => by have := (HR.out.lt g hg).1; have := HRB.out g hk; have := Z2.out; omega
 have hng2 : ∀ g, v.ownBlock = some g → ¬ ft' g := fun g hg hk => (hft g hk).elim (hng g hg) (fun h => by have := (HR.out.lt g hg).2; omega)
 have HR := Lib.hid (ownsRow_fr0 HR.out hf4 hng)
 have HNG := Lib.hid hng2
 have HL := Lib.hid hl
 obtain ⟨ra, rc, hv, _, _⟩ := EsIn.of_own HR.out
 obtain ⟨m, hm⟩ : ∃ m, E.length = m := ⟨_, rfl⟩
 rw [hm] at hv ⊢
 rw [hm] at HR
 clear hl hf4 hng hng2 hft
 subst hv
 go_wp2_with fail
 have e6 : ((w4.setCell ⟨w.heap.size + 1, 0, none⟩ (.int .i64 0)).setCell ⟨w.heap.size + 1, 1, none⟩ (.slice ra m rc)).heap[w.heap.size + 1]? = some (.cells #[.int .i64 0, .slice ra m rc] 56 (0, 0)) := heap_set_cell (heap_set_cell B3.out _) _
 have f6 : Fr0 (fun k => k = w.heap.size + 1) w4 ((w4.setCell ⟨w.heap.size + 1, 0, none⟩ (.int .i64 0)).setCell ⟨w.heap.size + 1, 1, none⟩ (.slice ra m rc)) := ((Fr0.refl (fun k => k = w.heap.size + 1) w4).setCell (fun _ => rfl) _).setCell (fun _ => rfl) _
 generalize (w4.setCell ⟨w.heap.size + 1, 0, none⟩ (.int .i64 0)).setCell ⟨w.heap.size + 1, 1, none⟩ (.slice ra m rc) = VV at e6 f6 ⊢
 have y0 := cells_in e6 0
 have y1 := cells_in e6 1
 simp at y0 y1
 have hne : ∀ k, ft' k → ¬ (k = w.heap.size + 1) := fun k hk e => by
  rcases HT.out k hk with h | h
  ·have := HRB.out k h; omega
  ·have := Z2.out; have := HW3.out; omega
 have hft9 : ∀ k, ft' k → ft k ∨ w.heap.size ≤ k := fun k hk => (HT.out k hk).imp id (fun h => by have := Z2.out; have := HW3.out; omega)
 have hfr9 : Fr0 ft w VV := ((F2.out.mono (S' := ft) (fun _ _ h => h.elim)).trans HF4.out).trans' f6 (fun k hk e => by have e : k = w.heap.size + 1 := e; omega)
 have hrow9 : VV.ownsRow w.heap.size 30 5 (.slice ra m rc) E.length (flatEv E) := by
  rw [hm]
  exact ownsRow_k_mono (ownsRow_fr0 HR.out f6 (fun g hg e => by have := (HR.out.lt g hg).1; have := Z2.out; have e : g = w.heap.size + 1 := e; omega)) (by have := Z2.out; omega)
 exact bodyPost_ret (v := .agg #[.int .i64 0, .slice ra m rc]) (by simp [results, Tryz.results70, go_sem, y0, y1]) rfl ⟨_, ft', rfl, hrow9, HL.out.fr0 f6 hne, hft9, HNG.out, hfr9⟩
theorem do_queue {w : World} {qb n T : Nat} {E : List Ev} {ft : Nat → Prop} (h : QIs w qb n T E ft) (hT : T + 1 < 4294967295) (a : Ca) (hk : 1 ≤ a.kind ∧ a.kind ≤ 5) (hi : I64 a.x.name.1 ∧ I64 a.x.name.2) :
  Calls Tryz.prog 70 #[.iface 37 (.pointer (some ⟨qb, 0, none⟩)), actCV a] w (DoT w ft (doC n E a).2 (fun ft' w' => QIs w' qb n (T + 1) (doC n E a).1 ft')) := by
 obtain ⟨kd, x, t⟩ := a
 simp only at hk hi
 have h5 : kd = 1 ∨ kd = 2 ∨ kd = 3 ∨ kd = 4 ∨ kd = 5 := by omega
 rcases h5 with rfl | rfl | rfl | rfl | rfl
 ·exact do_queue1 h hT x t
 ·exact do_queue2 h hT x t
 ·exact do_queue3 h hT x t
 ·exact do_queue4 h hT x hi t
 ·exact do_queue5 h hT x t
end Go.Proofs.YtieeloealklkgaaGreat

/-
  calendar: told with a queue.
-/
namespace Go.Proofs.YtieeloealklkgaaGreat
open Go Go.RowKit Go.ChangeMaps
attribute [local go_sem ↓] Go.wp_at_zero Go.wp_at_succ
attribute [local go_sem] Oper.semAt_some wide_fn wide_depth wide_fnR wide_depthR

/-- What the queue has become. -/
def QueueF (qb n T : Nat) (E : List Ev) (own X : Nat → Prop) (W : World) : Prop := ∃ ft, QIs W qb n T E ft ∧ ∀ k, ft k → own k ∨ X k
set_option maxRecDepth 100000 in
set_option maxHeartbeats 4000000 in
theorem told_queue {w : World} {qb n T m cap ab sb : Nat} {E : List Ev} {ft : Nat → Prop} {a : Option Addr} {L : List Ca} (h : QIs w qb n T E ft) (hT : T + m < 4294967295) (hL : CasIn w a L) (hl : L.length = m) (hm : m ≤ 100000) (hk : ∀ a ∈ L, 1 ≤ a.kind ∧ a.kind ≤ 5) (hi : ∀ a ∈ L, I64 a.x.name.1 ∧ I64 a.x.name.2)
  (hab : Box w ab (.slice a m cap)) (hsb : Box w sb (.iface 37 (.pointer (some ⟨qb, 0, none⟩)))) (hna : L ≠ [] → ∀ g o s, a = some ⟨g, o, s⟩ → ¬ ft g) (hnab : ¬ ft ab) (hnsb : ¬ ft sb) :
  IterR Tryz.prog 69 #[.pointer (some ⟨ab, 0, none⟩), .pointer (some ⟨sb, 0, none⟩)] (fun y : Td => #[y.val]) m (ToldR (tlC n E L)) (QueueF qb n (T + m) (stC n E L) ft) ft (fun k => k = ab ∨ k = sb ∨ (∃ o s, a = some ⟨k, o, s⟩ ∧ L ≠ []) ∨ ft k) w := by
 intro l J Jx W hK hJ hJx hY h0
 have H := Lib.hid (h.kept hK.1 (fun k hk => hK.2 k (.inr (.inr (.inr hk)))))
 have HL := Lib.hid (show L ≠ [] → CasIn W a L from fun hne => hL.kept (fun g o s e => hK.2 g (.inr (.inr (.inl ⟨o, s, e, hne⟩)))))
 have HA := Lib.hid (hab.of_block (hK.2 ab (.inl rfl)))
 have HS := Lib.hid (hsb.of_block (hK.2 sb (.inr (.inl rfl))))
 have HNA := Lib.hid hna
 have Hnab := Lib.hid hnab
 have Hnsb := Lib.hid hnsb
 have HJ := Lib.hid hJ
 have HY := Lib.hid hY
 have Hl := Lib.hid hl
 have Hk := Lib.hid hk
 have Hi := Lib.hid hi
 have H0 := Lib.hid h0
 have c0 := HA.out.cell
 clear h hL hab hsb hna hnab hnsb hJ hY hK hk hl h0 hi
 refine callsIn_of_wp Tryz.func69 rfl trivial ?_ rfl
 simp only [Tryz.ntmps69, List.size_toArray, List.length_cons, List.length_nil, Nat.reduceAdd, Nat.reduceSub, Array.replicate_succ, Array.replicate_zero, List.push_toArray, List.append_toArray, List.nil_append, List.cons_append]
 gi_wp2_with fail
 gi_loopw [5, 8] (fun _ i wr => ∃ (k : Nat) (X fk : Nat → Prop), k ≤ m ∧ i = .int .i64 k ∧ Hid (J k X wr) ∧ Hid (QIs wr qb n (T + k) (stC n E (L.take k)) fk ∧ ∀ j, fk j → ft j ∨ X j) ∧ Hid (Keep (fun b => b = ab ∨ b = sb ∨ ∃ o s, a = some ⟨b, o, s⟩ ∧ L ≠ []) W wr) ∧ Hid (∀ j, X j → W.heap.size ≤ j)) (fun _ i _ => m - (Go.RowKit.intOf i).toNat)
 case atStart => exact ⟨0, none', ft, Nat.zero_le _, rfl, H0.out, ⟨H.out, fun j hj => .inl hj⟩, Keep.refl _ _, fun j hj => hj.elim⟩
 case round =>
  clear H0
  obtain ⟨k, X, fk, hk, rfl, hj, hS, hKp, hX⟩ := hrel
  by_cases hlt : k < m
  ·have hne : L ≠ [] := fun e => by have := Hl.out; rw [e] at this; simp at this; omega
   obtain ⟨x, hx⟩ : ∃ x, L[k]? = some x := ⟨_, List.getElem?_eq_getElem (by rw [Hl.out]; exact hlt)⟩
   obtain ⟨g2, o, rfl, _⟩ := HL.out hne k x hx
   have hcas : CasIn wr (some ⟨g2, o, none⟩) L := (HL.out hne).kept (fun g o' s e => hKp.out.2 g (.inr (.inr ⟨o', s, e, hne⟩)))
   obtain ⟨g3, o3, e3, hxc⟩ := hcas k x hx
   injection e3 with e3
   injection e3 with e3 e4
   subst e3 e4
   obtain ⟨x0, x1, x2, x3, x4, x5, x6⟩ := hxc
   have k1 : (0 : Int) ≤ (k : Int) := by omega
   have k2 : (k : Int) < (m : Int) := by omega
   have z5 : IntKind.i64.wrap ((k : Int) + 1) = (k : Int) + 1 := IntWalk.i64_in _ (by omega)
   obtain ⟨W2, hW2⟩ : ∃ V, wr.alloc (.cells #[.int .u8 x.kind, .int .i64 x.x.key.time, .int .i64 x.x.key.source, .int .i64 x.x.key.seq, .int .i64 x.x.to, .int .i64 x.x.value, .int .i64 x.time] 33) = V := ⟨_, rfl⟩
   have f2 : Fr0 none' wr W2 := by rw [← hW2]; exact (Fr0.refl _ _).alloc _
   have hS2 := hS.out.1.later f2
   have hj2 : J k X W2 := HJ.out k X X wr W2 hj.out (f2.mono (fun _ _ h => h.elim)) (fun _ h => .inl h)
   have hsb2 : Box W2 sb (.iface 37 (.pointer (some ⟨qb, 0, none⟩))) := (HS.out.of_block (hKp.out.2 sb (.inr (.inl rfl)))).fr0 f2 id
   have cS := hsb2.cell
   have HD := Lib.hid (do_queue hS2 (by omega) x (Hk.out x (List.mem_of_getElem? hx)) (Hi.out x (List.mem_of_getElem? hx)))
   have Hx := Lib.hid hx
   have HS2 := Lib.hid hS2
   have F2 := Lib.hid f2
   have Hj2 := Lib.hid hj2
   have Hne := Lib.hid hne
   unfold actCV at HD
   clear hcas hx hS2 hj2 hsb2 f2 hne
   subst hW2
   gi_wp2_with fail
   refine (callsIn_wide.2 HD.out).mono ?_
   rintro e W3 ⟨v, ft', rfl, hrow, hl', hft', hnv, hf3⟩
   obtain ⟨va, vc, hv9, _, _⟩ := EsIn.of_own hrow
   obtain ⟨vn, hvn⟩ : ∃ vn, (doC n (stC n E (L.take k)) x).2.evs.length = vn := ⟨_, rfl⟩
   rw [hvn] at hv9
   subst hv9
   clear hvn
   obtain ⟨Tx, hTx⟩ : ∃ Tx, (doC n (stC n E (L.take k)) x).2 = Tx := ⟨_, rfl⟩
   rw [hTx] at hrow ⊢
   rw [← stC_snoc Hx.out] at hl'
   have htl := tlC_at (n := n) (E := E) Hx.out
   rw [hTx] at htl
   obtain ⟨W2, hW2⟩ : ∃ V, wr.alloc (.cells #[.int .u8 x.kind, .int .i64 x.x.key.time, .int .i64 x.x.key.source, .int .i64 x.x.key.seq, .int .i64 x.x.to, .int .i64 x.x.value, .int .i64 x.time] 33) = V := ⟨_, rfl⟩
   rw [hW2] at hrow hft' hf3 HS2 F2 Hj2
   clear hW2 HD
   obtain ⟨Y, hY⟩ : ∃ Y : Nat → Prop, Y = fun j => X j ∨ (W2.heap.size ≤ j ∧ j < W3.heap.size) := ⟨_, rfl⟩
   obtain ⟨Z, hZ⟩ : ∃ Z : Nat → Prop, Z = fun j => Y j ∧ (Value.slice va vn vc).ownBlock ≠ some j := ⟨_, rfl⟩
   have hj3 : J k Y W3 := HJ.out k X Y W2 W3 Hj2.out (hf3.mono (fun j _ h => hS.out.2 j h)) (fun j h => by rw [hY] at h; exact h)
   have hfoot : ∀ j, ft' j → ft j ∨ Z j := fun j hj => by
    have hlt3 := hl'.lt j hj
    have hv := fun e => hnv j e hj
    rcases hft' j hj with h | h
    ·rcases hS.out.2 j h with h | h
     ·exact .inl h
     ·exact .inr (by rw [hZ]; exact ⟨by rw [hY]; exact .inl h, hv⟩)
    ·exact .inr (by rw [hZ]; exact ⟨by rw [hY]; exact .inr ⟨h, hlt3⟩, hv⟩)
   obtain ⟨fn, tmps, assign, body, hyy, hR⟩ := HY.out k ⟨Tx.err, va, vn, vc, Tx.evs⟩ Y Z W3 ⟨htl, ownsRow_k_mono hrow (Nat.zero_le _), fun g hg => ⟨by rw [hY]; exact .inr (hrow.lt g hg), fun hz => by rw [hZ] at hz; exact hz.2 hg⟩, fun j hj => by rw [hZ] at hj; exact hj.1⟩ hj3
   unfold Td.val at hyy
   have HR := Lib.hid hR
   have HLI := Lib.hid hl'
   have HFo := Lib.hid hfoot
   have HF3 := Lib.hid hf3
   have hXY : ∀ j, Z j → W.heap.size ≤ j := fun j hj => by
    rw [hZ] at hj
    have hj := hj.1
    rw [hY] at hj
    rcases hj with h | h
    ·exact hX.out j h
    ·have := hKp.out.1
     have := F2.out.size
     omega
   have HXY := Lib.hid hXY
   have hK3 : Keep (fun b => b = ab ∨ b = sb ∨ ∃ o' s, (some ⟨g2, o, none⟩ : Option Addr) = some ⟨b, o', s⟩ ∧ L ≠ []) W W3 := by
    have hno : ∀ b, b < W.heap.size → ¬ ft b → ¬ fk b := fun b hb h1 h2 => (hS.out.2 b h2).elim h1 (fun h => by have := hX.out b h; omega)
    refine hKp.out.trans (((F2.out.mono (S' := fk) (fun _ _ h => h.elim)).trans hf3).keep (fun b hb => ?_))
    have hsz := hKp.out.1
    rcases hb with rfl | rfl | ⟨o', s, e, h⟩
    ·exact ⟨Nat.lt_of_lt_of_le HA.out.lt hsz, hno _ HA.out.lt Hnab.out⟩
    ·exact ⟨Nat.lt_of_lt_of_le HS.out.lt hsz, hno _ HS.out.lt Hnsb.out⟩
    ·have hb := (HL.out h).lt h b o' s e
     exact ⟨Nat.lt_of_lt_of_le hb hsz, hno _ hb (HNA.out h b o' s e)⟩
   have HK3 := Lib.hid hK3
   clear hrow hl' hft' hnv hf3 htl hj3 hfoot hR hXY hK3 hY hZ hTx
   gi_wp2_with fail
   refine HR.out.mono ?_
   rintro e W4 (⟨rfl, hJ4, hk4⟩ | ⟨rfl, hJx4⟩)
   ·have hli := HLI.out.kept hk4.1 (fun j hj => hk4.2 j ((HFo.out j hj).elim (fun h => .inl (.inr (.inr (.inr h)))) .inr))
    have hkk : Keep (fun b => b = ab ∨ b = sb ∨ ∃ o' s, (some ⟨g2, o, none⟩ : Option Addr) = some ⟨b, o', s⟩ ∧ L ≠ []) W W4 := HK3.out.trans ⟨hk4.1, fun b hb => hk4.2 b (.inl (hb.imp id (fun h => h.imp id .inl)))⟩
    have HLI := Lib.hid hli
    have HKK := Lib.hid hkk
    have HJ4 := Lib.hid hJ4
    clear hli hkk hk4 hJ4
    gi_wp2
    go_roundw
    case rel => exact ⟨k + 1, Z, ft', by omega, by go_num, HJ4, ⟨HLI.out, HFo.out⟩, HKK, HXY⟩
    case measure => simp [Go.RowKit.intOf]; omega
   ·gi_wp2
    refine bodyPost_ret (results_none rfl _ _ _) rfl ?_
    exact ⟨⟨_, rfl⟩, .inr hJx4⟩
  ·have hkm : k = m := by omega
   subst hkm
   have hfin : QueueF qb n (T + k) (stC n E L) ft X wr := ⟨fk, by rw [← List.take_of_length_le (l := L) (i := k) (by rw [Hl.out]; exact Nat.le_refl _)]; exact hS.out.1, hS.out.2⟩
   have HJF := Lib.hid hj.out
   have HFin := Lib.hid hfin
   clear hj hfin
   gi_wp2
   go_end0
   exact ⟨⟨_, rfl⟩, .inl ⟨X, HJF.out, HFin.out⟩⟩
end Go.Proofs.YtieeloealklkgaaGreat

/-
  calendar: Queue.
-/
namespace Go.Proofs.YtieeloealklkgaaGreat
open Go Go.RowKit Go.ChangeMaps
attribute [local go_sem ↓] Go.wp_at_zero Go.wp_at_succ
attribute [local go_sem] Oper.semAt_some wide_fn wide_depth wide_fnR wide_depthR

/-- What Queue returns: the events that the queue has then, what the acts told, the index, the error. -/
def queC (n : Nat) (E : List Ev) (A : List Ca) : List Ev × List Tl × Int × Int := if 0 ≤ oddC A then (E, [], oddC A, 121) else (stC n E A, tlC n E A, -1, 0)
theorem queC_odd {n : Nat} {E : List Ev} {A : List Ca} (h : 0 ≤ oddC A) : queC n E A = (E, [], oddC A, 121) := by unfold queC; rw [if_pos h]
theorem queC_right {n : Nat} {E : List Ev} {A : List Ca} (h : ¬ 0 ≤ oddC A) : queC n E A = (stC n E A, tlC n E A, -1, 0) := by unfold queC; rw [if_neg h]
/-- The end of Queue. -/
def EndQ (qb n T : Nat) (E : List Ev) (A : List Ca) (ft : Nat → Prop) (w : World) (e : Ending) (w' : World) : Prop :=
 ∃ u ys ft', e = .returned (.tuple #[u, .int .i64 (queC n E A).2.2.1, .int .i64 (queC n E A).2.2.2]) ∧ w'.ownsRow w.heap.size 56 2 u (queC n E A).2.1.length (flatTd ys) ∧ TdsOk w' (queC n E A).2.1 ys u w.heap.size ft' ∧ QIs w' qb n T (queC n E A).1 ft' ∧ (∀ k, ft' k → ft k ∨ w.heap.size ≤ k) ∧ (∀ g, u.ownBlock = some g → ¬ ft' g) ∧ Fr0 ft w w'
set_option maxRecDepth 100000 in
set_option maxHeartbeats 2000000 in
theorem Queue_any {w : World} {qb n T m ca : Nat} {E : List Ev} {ft : Nat → Prop} {aa : Option Addr} (A : List Ca) (h : QIs w qb n T E ft) (hT : T + m < 4294967295) (hA : CasIn w aa A) (hAl : A.length = m) (hm : m ≤ 100000) (hk : ∀ x ∈ A, 0 ≤ x.kind ∧ x.kind < 256) (hi : ∀ a ∈ A, I64 a.x.name.1 ∧ I64 a.x.name.2) (hna : A ≠ [] → ∀ g o s, aa = some ⟨g, o, s⟩ → ¬ ft g) :
  Calls Tryz.prog 12 #[.pointer (some ⟨qb, 0, none⟩), .slice aa m ca] w fun e w' => EndQ qb n (T + m) E A ft w e w' := by
 have HC := Lib.hid h.copy
 have HQ := Lib.hid h
 have HO := Lib.hid (fun (W : World) (hW : Fr0 none' w W) => odd_any (cap := ca) A (hA.later hW) hAl hm hk)
 have HA := Lib.hid hA
 have HAl := Lib.hid hAl
 have HK := Lib.hid hk
 have HI := Lib.hid hi
 have HNA := Lib.hid hna
 have HT := Lib.hid hT
 clear h hA hAl hk hi hna hT
 go_enter Tryz.func12, Tryz.ntmps12
 go_wp2_with fail
 refine HC.out.mono ?_
 rintro e w1 ⟨cb, fc, rfl, _, _, hf1⟩
 have F1 := Lib.hid hf1
 have HO1 := Lib.hid (HO.out _ hf1)
 clear HO hf1 HC
 obtain ⟨R, hR⟩ : ∃ R, oddC A = R := ⟨_, rfl⟩
 rw [hR] at HO1
 have hR1 : -1 ≤ R := by rw [← hR]; exact oddC_ge A
 by_cases h0 : 0 ≤ R
 ·have Hp := Lib.hid (queC_odd (n := n) (E := E) (A := A) (by rw [hR]; exact h0))
  rw [hR] at Hp
  have d1 : decide (R ≥ 0) = true := decide_eq_true h0
  have d2 : decide (0 ≤ R) = true := decide_eq_true h0
  clear hR h0 hR1
  go_wp2_with fail
  refine HO1.out.mono ?_
  rintro e w2 ⟨rfl, hf⟩
  have F2 := Lib.hid (F1.out.trans hf)
  have HE := Lib.hid (show EndQ qb n (T + m) E A ft w (.returned (.tuple #[.slice none 0 0, .int .i64 R, .int .i64 121])) w2 from by
   unfold EndQ
   rw [Hp.out]
   exact ⟨_, [], ft, rfl, World.ownsRow_nil _ _ _ _, TdsOk.nil _ _ _ _, (HQ.out.later F2.out).mono (Nat.le_add_right _ _), fun k hk => .inl hk, (fun g hg => by cases hg), F2.out.mono (fun _ _ h => h.elim)⟩)
  clear hf
  go_wp2_with fail
  go_ret3
  exact HE.out
 ·have Hp := Lib.hid (queC_right (n := n) (E := E) (A := A) (by rw [hR]; exact h0))
  have HK1 := Lib.hid (oddC_neg (by rw [hR]; exact h0))
  obtain rfl : R = -1 := by omega
  clear hR h0 hR1
  go_wp2_with fail
  refine HO1.out.mono ?_
  rintro e w2 ⟨rfl, hf⟩
  have F2 := Lib.hid (F1.out.trans hf)
  have HTO := Lib.hid (told_any (.pointer (some ⟨qb, 0, none⟩)) 37 aa m ca w2)
  clear hf
  go_wp2_with fail
  refine HTO.out.mono ?_
  rintro e w5 ⟨ab, sb, rfl, hab, hsb, hab0, hsb0, hf5⟩
  have F5 := Lib.hid (F2.out.trans hf5)
  have hq5 := HQ.out.later F5.out
  have hlt := HQ.out.lt
  have hs2 := F2.out.size
  have HCo := Lib.hid (CollectT 69 #[.pointer (some ⟨ab, 0, none⟩), .pointer (some ⟨sb, 0, none⟩)] (tlC n E A) (QueueF qb n (T + m) (stC n E A) ft) ft (fun k => k = ab ∨ k = sb ∨ (∃ o s, aa = some ⟨k, o, s⟩ ∧ A ≠ []) ∨ ft k) w5 (fun _ _ => rfl)
   (by rw [tlC_length, HAl.out]; exact told_queue hq5 HT.out (HA.out.later F5.out) HAl.out hm HK1.out HI.out hab hsb (fun h0 g o s e h => HNA.out h0 g o s e h) (fun h => by have := hlt _ h; omega) (fun h => by have := hlt _ h; omega))
   (fun X W1 W2 S hF hf hS => by obtain ⟨f', h1, h2⟩ := hF; exact ⟨f', h1.fr0 hf (fun k hk => hS k (h2 k hk)), h2⟩)
   (fun k hk => hq5.lt k hk)
   (fun k hk => by
    rcases hk with rfl | rfl | ⟨o, s, e, h0⟩ | hk
    ·exact hab.lt
    ·exact hsb.lt
    ·have := HA.out.lt h0 k o s e; have := F5.out.size; omega
    ·exact hq5.lt k hk)
   (by rw [tlC_length, HAl.out]; omega))
  clear hab hsb hab0 hsb0 hf5 hq5 hlt hs2
  go_wp2_with fail
  refine HCo.out.mono ?_
  rintro e w6 ⟨u, ys, X, rfl, hu, hT, huX, hX0, ⟨ft', hq6, hft'⟩, hf6⟩
  have hul : ∃ a b c, u = .slice a b c := by
   rcases hu.2 with ⟨rfl, _⟩ | ⟨g, cap, cur, rfl, _⟩
   ·exact ⟨_, _, _, rfl⟩
   ·exact ⟨_, _, _, rfl⟩
  obtain ⟨ua, un, uc, rfl⟩ := hul
  have hs5 := F5.out.size
  have HE := Lib.hid (show EndQ qb n (T + m) E A ft w (.returned (.tuple #[.slice ua un uc, .int .i64 (-1), .int .i64 0])) w6 from by
   unfold EndQ
   rw [Hp.out]
   refine ⟨_, ys, ft', rfl, ownsRow_k_mono hu hs5, hT.mono (fun g _ hg => hft' g hg) (fun _ _ _ h => h) hs5, hq6, fun k hk => (hft' k hk).imp id (fun h => by have := hX0 k h; omega), fun g hg hk => ?_, (F5.out.mono (fun _ _ h => h.elim)).trans hf6⟩
   have hg5 := (hu.lt g hg).1
   rcases hft' g hk with h | h
   ·have := HQ.out.lt g h; omega
   ·exact huX g hg h)
  clear hu hT huX hX0 hq6 hft' hf6 hs5
  go_wp2_with fail
  go_ret3
  exact HE.out
/-- A queue within a law: its foot is new, and nothing old has changed. -/
def StQ (w W : World) (qb c T : Nat) (E : List Ev) (ft : Nat → Prop) : Prop := QIs W qb c T E ft ∧ Fr0 none' w W ∧ ∀ k, ft k → w.heap.size ≤ k
theorem StQ.later {w W W' : World} {qb c T : Nat} {E : List Ev} {ft : Nat → Prop} (h : StQ w W qb c T E ft) (hf : Fr0 none' W W') : StQ w W' qb c T E ft := ⟨h.1.later hf, h.2.1.trans hf, h.2.2⟩
theorem StQ.step {w W W' : World} {qb c T T' : Nat} {E E' : List Ev} {ft : Nat → Prop} (h : StQ w W qb c T E ft) (hq : QIs W' qb c T' E' (qgrow ft W W')) (hf : Fr0 ft W W') : StQ w W' qb c T' E' (qgrow ft W W') :=
 ⟨hq, h.2.1.trans' hf (fun i hi hs => by have := h.2.2 i hs; omega), fun k hk => hk.elim (h.2.2 k) (fun g => Nat.le_trans h.2.1.size g.1)⟩
theorem StQ.other {w W W' : World} {qb c T : Nat} {E : List Ev} {ft gt : Nat → Prop} (h : StQ w W qb c T E ft) (h2 : ∀ k, gt k → w.heap.size ≤ k) (hd : ∀ k, ft k → ¬ gt k) (hf : Fr0 gt W W') : StQ w W' qb c T E ft :=
 ⟨h.1.fr0 hf hd, h.2.1.trans' hf (fun i hi hs => by have := h2 i hs; omega), h.2.2⟩
end Go.Proofs.YtieeloealklkgaaGreat

/-
  Maps from keys of any kind to integers; keys, events as keys.
-/
namespace Go.Proofs.YtieeloealklkgaaGreat
open Go Go.RowKit Go.Maps Go.ChangeMaps
open Go.WideElems (Fit)
open Go.WideMaps (KeyLaw ArrKey)

section
variable {κ : Type} {P : Program} {k t e : TypeId} {w w' : World} {b n : Nat} {kv : κ → Value} {c : κ → Option Int}
/-- The map has the keys that c has, each with its number; it has at most n. -/
def MgIs (P : Program) (k : TypeId) (kv : κ → Value) (w : World) (b n : Nat) (c : κ → Option Int) : Prop :=
 ∃ D : DataW Unit, w.ownsMap P k intR b n D ∧ ∀ (nm : κ) (kl : Lit), keyOf P k (kv nm) = some kl → Maps.has D kl = (c nm).isSome ∧ D.atKey kl (.lit (.int .i64 0)) = .lit (.int .i64 ((c nm).getD 0))
theorem MgIs.fr0 {S : Nat → Prop} (h : MgIs P k kv w b n c) (hf : Fr0 S w w') (hs : ¬ S b) : MgIs P k kv w' b n c := by
 obtain ⟨D, h1, h2⟩ := h
 refine ⟨D, ?_, h2⟩
 obtain ⟨es, clock, hb, r⟩ := h1
 exact ⟨es, clock, (hf.block b (Array.getElem?_eq_some_iff.1 hb).1 hs).trans hb, r⟩
theorem MgIs.later (h : MgIs P k kv w b n c) (hf : Fr0 none' w w') : MgIs P k kv w' b n c := h.fr0 hf (fun h => h)
theorem MgIs.lt (h : MgIs P k kv w b n c) : b < w.heap.size := by
 obtain ⟨D, h1, _⟩ := h
 exact h1.lt
theorem mg_made (w : World) : MgIs P k kv (w.alloc (.map #[] 0)) w.heap.size 0 (fun _ => none) :=
 ⟨.map [], World.ownsMap_made w P k intR, fun nm kl _ => ⟨rfl, rfl⟩⟩
theorem MgIs.look (h : MgIs P k kv w b n c) (K : KeyLaw P k) (ht : P.underlying t = some (.map k e)) (hz : (zeroValue e).run P w = .ok (.int .i64 0) w) {nm : κ} {kl : Lit} (hk : keyOf P k (kv nm) = some kl) :
  (Instr.lookup t (.map (some b)) (kv nm) true).run P w = .ok (.tuple #[.int .i64 ((c nm).getD 0), .bool (c nm).isSome]) w ∧ (Instr.lookup t (.map (some b)) (kv nm) false).run P w = .ok (.int .i64 ((c nm).getD 0)) w := by
 obtain ⟨D, h1, h2⟩ := h
 obtain ⟨ha, hb⟩ := h2 nm kl hk
 obtain ⟨v, ps, hr, hv⟩ := h1.look_ok (Keyed.of_law K) ht hz (show intR (.int .i64 0) = some (_, _) from rfl) hk
 obtain ⟨v', ps', hr', hv'⟩ := h1.lookup (Keyed.of_law K) ht hz (show intR (.int .i64 0) = some (_, _) from rfl) hk
 rw [hb] at hv hv'
 rw [intR_inv hv, ha] at hr
 rw [intR_inv hv'] at hr'
 exact ⟨hr, hr'⟩
theorem mg_put [DecidableEq κ] (hinj : ∀ a b : κ, kv a = kv b → a = b) {D : DataW Unit} (hD : Maps.Tidy D) (K : KeyLaw P k) (h2 : ∀ (nm : κ) (kl : Lit), keyOf P k (kv nm) = some kl → Maps.has D kl = (c nm).isSome ∧ D.atKey kl (.lit (.int .i64 0)) = .lit (.int .i64 ((c nm).getD 0)))
  {nm : κ} {kl : Lit} (hk : keyOf P k (kv nm) = some kl) (v : Int) (m : κ) (kl' : Lit) (hk' : keyOf P k (kv m) = some kl') :
  Maps.has (D.put kl (.lit (.int .i64 v))) kl' = ((if m = nm then some v else c m) : Option Int).isSome ∧ (D.put kl (.lit (.int .i64 v))).atKey kl' (.lit (.int .i64 0)) = .lit (.int .i64 (((if m = nm then some v else c m) : Option Int).getD 0)) := by
 by_cases hm : m = nm
 ·subst hm
  rw [hk] at hk'
  cases hk'
  simp only [if_pos rfl]
  exact ⟨Maps.has_put_same hD.isMap ((Keyed.of_law K).key hk) _, Maps.atKey_put_same hD.isMap ((Keyed.of_law K).key hk) _ _⟩
 ·have hne : kl' ≠ kl := fun e => by
   subst e
   exact hm (hinj _ _ (K.inj hk' hk))
  simp only [if_neg hm]
  rw [Maps.has_put_other hne, Maps.atKey_put_other hne]
  exact h2 m kl' hk'
/-- A key is written. -/
theorem MgIs.put [DecidableEq κ] (h : MgIs P k kv w b n c) (hinj : ∀ a b : κ, kv a = kv b → a = b) (K : KeyLaw P k) (ht : P.underlying t = some (.map k e)) (hn : n < maxLen) {nm : κ} {kl : Lit} (hk : keyOf P k (kv nm) = some kl) (v : Int) :
  ∃ w', (Instr.mapUpdate t (.map (some b)) (kv nm) (.int .i64 v)).run P w = .ok () w' ∧ MgIs P k kv w' b (n + 1) (fun m => if m = nm then some v else c m) ∧ Fr0 (fun g => g = b) w w' := by
 obtain ⟨D, ho, h3⟩ := h
 have hD := ho.tidy (Keyed.of_law K)
 obtain ⟨w', hr, ho', hm⟩ := ho.store (Keyed.of_law K) ht hn hk (show intR (.int .i64 v) = some (_, _) from rfl)
 have hg := hm.grown
 exact ⟨w', hr, ⟨_, ho', fun m kl' hk' => mg_put hinj hD K h3 hk v m kl' hk'⟩, ⟨hg.os, hg.tape, hg.output, hg.size, fun i hi hs => hg.block i hi (fun e => hs (Option.some.inj e))⟩⟩
/-- An entry is written, in its two steps. -/
theorem MgIs.up [DecidableEq κ] (h : MgIs P k kv w b n c) (hinj : ∀ a b : κ, kv a = kv b → a = b) (K : KeyLaw P k) (ht : P.underlying t = some (.map k e)) (hn : n < maxLen) (hz : ∀ u : World, (zeroValue e).run P u = .ok (.int .i64 0) u) {nm : κ} {kl : Lit} (hk : keyOf P k (kv nm) = some kl) :
  ∃ (o1 : Obj) (st : Int), (Instr.mapEntry t (.map (some b)) (kv nm)).run P w = .ok (.tuple #[.int .i64 ((c nm).getD 0), .int .i64 st]) (setBlock w b o1) ∧ (∀ w2 : World, w2.heap[b]? = some o1 → (Instr.lookup t (.map (some b)) (kv nm) false).run P w2 = .ok (.int .i64 ((c nm).getD 0)) w2) ∧
   ∀ v : Int, ∃ o2 : Obj, (∀ w2 : World, w2.heap[b]? = some o1 → (Instr.entryStore t (.map (some b)) (.int .i64 st) (.int .i64 v)).run P w2 = .ok () (setBlock w2 b o2)) ∧
    ∀ w3 : World, w3.heap[b]? = some o2 → MgIs P k kv w3 b (n + 1) (fun m => if m = nm then some v else c m) := by
 obtain ⟨D, h1, h2⟩ := h
 have hD := h1.tidy (Keyed.of_law K)
 obtain ⟨v0, o1, st, hr, ⟨ps', hv0⟩, hlk, hst⟩ := entry_up h1 K ht hn hz (show intR (.int .i64 0) = some (_, _) from rfl) hk
 rw [(h2 nm kl hk).2] at hv0
 obtain rfl := intR_inv hv0
 refine ⟨o1, st, hr, hlk, fun v => ?_⟩
 obtain ⟨o2, g1, g2⟩ := hst (.int .i64 v) (.lit (.int .i64 v)) [] rfl
 exact ⟨o2, g1, fun w3 hw3 => ⟨_, g2 w3 hw3, fun m kl' hk' => mg_put hinj hD K h2 hk v m kl' hk'⟩⟩
end
/-! ### Keys and events as keys -/
theorem laid_outM : laidOutB Tryz.prog = true := by kernel_rfl
theorem key_law : KeyLaw Tryz.prog 28 := deep_law_laid laid_outM (m := 2) (by omega) (of_decide_eq_true (by kernel_rfl)) (by kernel_rfl) (by rw [Tryz.underlying28])
/-- A number that a register holds. -/
def R64 (a : Int) : Prop := -9223372036854775808 ≤ a ∧ a ≤ 9223372036854775807
theorem wf_r64 {a : Int} (h : R64 a) : (Lit.int .i64 a).wf = true := by
 obtain ⟨h1, h2⟩ := h
 simp [Lit.wf, show IntKind.i64.min = -9223372036854775808 from by decide, show IntKind.i64.max = 9223372036854775807 from by decide]
 omega
theorem types_size2 : ∃ m, (Tryz.prog).types.size = m + 2 := ⟨(Tryz.prog).types.size - 2, by kernel_rfl⟩
def R64K (x : Key3) : Prop := R64 x.time ∧ R64 x.source ∧ R64 x.seq
theorem keyV_inj (a b : Key3) (h : keyV a = keyV b) : a = b := by
 unfold keyV at h
 simp only [Value.agg.injEq, Array.mk.injEq, List.cons.injEq, Value.int.injEq, true_and, and_true] at h
 obtain ⟨⟩ := a
 obtain ⟨⟩ := b
 simp_all
theorem key_key_is {x : Key3} (h : R64K x) : ∃ kl, keyOf Tryz.prog 28 (keyV x) = some kl := by
 have w1 := wf_r64 h.1
 have w2 := wf_r64 h.2.1
 have w3 := wf_r64 h.2.2
 refine ⟨.string (keyBytes [.int .i64 x.time, .int .i64 x.source, .int .i64 x.seq]), ?_⟩
 have hkt : Tryz.prog.keyType 28 = true := by kernel_rfl
 have hc : Tryz.prog.cellsOf 28 = 3 := by kernel_rfl
 have hi : Tryz.prog.cellsOf 3 = 1 := by kernel_rfl
 obtain ⟨m, hm⟩ := types_size2
 unfold keyOf keyV
 simp only [Tryz.underlying28]
 rw [if_pos (by simp [hkt, Value.formed, Tryz.underlying28, hc]), hm]
 unfold Program.keyLits
 simp only [Tryz.underlying28, Value.cells]
 rw [if_pos ⟨by rw [hc]; rfl, by kernel_rfl⟩]
 simp [hi, Program.keyLits, Tryz.underlying3, w1, w2, w3]
end Go.Proofs.YtieeloealklkgaaGreat

/-
  Events of small numbers with different keys (layer 11).
-/
namespace Go.Proofs.YtieeloealklkgaaGreat
open Go Go.RowKit Go.ChangeMaps
attribute [local go_sem ↓] Go.wp_at_zero Go.wp_at_succ
attribute [local go_sem] Oper.semAt_some wide_fn wide_depth wide_fnR wide_depthR

theorem own_upE {w : World} {base base' : Nat} {e : TypeId} {size : Nat} {v : Value} {n : Nat} {xs : List Value} (h : w.ownsRow base e size v n xs) (hb : base' ≤ base) : w.ownsRow base' e size v n xs := by
 obtain ⟨h1, h2⟩ := h
 refine ⟨h1, ?_⟩
 rcases h2 with h2 | ⟨g, cap, cur, hv, hg, r⟩
 ·exact Or.inl h2
 ·exact Or.inr ⟨g, cap, cur, hv, Nat.le_trans hb hg, r⟩
/-- A slice of events in small numbers. -/
def Sm5sIn (w : World) (a : Option Addr) (L : List Sm5) : Prop := ∀ j x, L[j]? = some x → x.ok ∧ ∃ g o, a = some ⟨g, o, none⟩ ∧ w.cell? ⟨g, o + j * 5, none⟩ = some (.int .u8 x.t) ∧ w.cell? ⟨g, o + j * 5 + 1, none⟩ = some (.int .u8 x.s) ∧ w.cell? ⟨g, o + j * 5 + 2, none⟩ = some (.int .u8 x.q) ∧ w.cell? ⟨g, o + j * 5 + 3, none⟩ = some (.int .u8 x.o) ∧ w.cell? ⟨g, o + j * 5 + 4, none⟩ = some (.int .u8 x.l)
theorem Sm5sIn.later {w w' : World} {a : Option Addr} {L : List Sm5} (h : Sm5sIn w a L) (hf : Fr0 none' w w') : Sm5sIn w' a L := by
 intro j x hj
 obtain ⟨h1, g, o, h2, c0, c1, c2, c3, c4⟩ := h j x hj
 exact ⟨h1, g, o, h2, hf.later c0, hf.later c1, hf.later c2, hf.later c3, hf.later c4⟩
theorem madeV_r64 {x : Sm5} (h : x.ok) : R64K (madeV x).key := by
 obtain ⟨h1, h2, h3, h4, h5⟩ := h
 unfold R64K R64 madeV
 simp only
 omega
/-- Of events with one key the first one. -/
def dedK (l : List Ev) : List Ev := l.foldl (fun acc e => if acc.any (fun y => y.key == e.key) then acc else acc ++ [e]) []
theorem dedK_snoc (l : List Ev) (x : Ev) : dedK (l ++ [x]) = if (dedK l).any (fun y => y.key == x.key) then dedK l else dedK l ++ [x] := by unfold dedK; rw [List.foldl_append]; rfl
theorem snoc_indK {p : List Ev → Prop} (h0 : p []) (hs : ∀ l x, p l → p (l ++ [x])) : ∀ (n : Nat) (l : List Ev), l.length = n → p l
 | 0, l, h => by rw [List.eq_nil_of_length_eq_zero h]; exact h0
 | n + 1, l, h => by
  rcases List.eq_nil_or_concat l with rfl | ⟨L, b, rfl⟩
  ·exact h0
  ·rw [List.concat_eq_append] at h ⊢
   exact hs L b (snoc_indK h0 hs n L (by simpa using h))
theorem dedK_sub (l : List Ev) : ∀ x ∈ dedK l, x ∈ l := by
 refine snoc_indK (p := fun l => ∀ x ∈ dedK l, x ∈ l) (by simp [dedK]) (fun l x ih => ?_) _ l rfl
 rw [dedK_snoc]
 intro z hz
 split at hz
 ·exact List.mem_append_left _ (ih z hz)
 ·rcases List.mem_append.1 hz with h | h
  ·exact List.mem_append_left _ (ih z h)
  ·exact List.mem_append_right _ h
theorem dedK_le (l : List Ev) : (dedK l).length ≤ l.length := by
 refine snoc_indK (p := fun l => (dedK l).length ≤ l.length) (by simp [dedK]) (fun l x ih => ?_) _ l rfl
 rw [dedK_snoc]
 split
 ·simp; omega
 ·simp; omega
theorem dedK_any (l : List Ev) (nm : Key3) : (dedK l).any (fun y => y.key == nm) = l.any (fun y => y.key == nm) := by
 refine snoc_indK (p := fun l => (dedK l).any (fun y => y.key == nm) = l.any (fun y => y.key == nm)) (by simp [dedK]) (fun l x ih => ?_) _ l rfl
 rw [dedK_snoc, List.any_append, ← ih]
 simp only [List.any_cons, List.any_nil, Bool.or_false]
 split
 ·next h =>
  by_cases e : x.key = nm
  ·rw [e] at h
   rw [h]; simp
  ·have : (x.key == nm) = false := by simpa using e
   rw [this, Bool.or_false]
 ·rw [List.any_append]
  simp
/-- The events of small numbers. -/
def evsK (xs : List Sm5) (most : Nat) : List Ev := dedK ((xs.take most).map madeV)
theorem evsK_right {xs : List Sm5} {most : Nat} : ∀ x ∈ evsK xs most, RightE x := fun x hx => by
 have := dedK_sub _ x hx
 obtain ⟨y, _, rfl⟩ := List.mem_map.1 this
 exact madeV_right
theorem evsK_le (xs : List Sm5) (most : Nat) : (evsK xs most).length ≤ most := by
 have h1 := dedK_le ((xs.take most).map madeV)
 rw [List.length_map, List.length_take] at h1
 unfold evsK
 omega
def cntY (l : List Ev) (nm : Key3) : Nat := l.countP (fun y => y.key == nm)
theorem cntY_any (l : List Ev) (nm : Key3) : l.any (fun y => y.key == nm) = decide (cntY l nm ≠ 0) := by
 unfold cntY
 by_cases h : l.any (fun y => y.key == nm) = true
 ·rw [h]
  have : 0 < l.countP (fun y => y.key == nm) := List.countP_pos_iff.2 (by simpa using h)
  exact (decide_eq_true (by omega)).symm
 ·rw [Bool.not_eq_true] at h
  rw [h]
  have : l.countP (fun y => y.key == nm) = 0 := List.countP_eq_zero.2 (by simpa using h)
  exact (decide_eq_false (by omega)).symm
theorem cntY_snoc (l : List Ev) (x : Ev) (nm : Key3) : cntY (l ++ [x]) nm = cntY l nm + if nm = x.key then 1 else 0 := by
 unfold cntY
 rw [List.countP_append, List.countP_singleton]
 by_cases e : nm = x.key
 ·simp [e]
 ·rw [if_neg e, if_neg (by simpa using fun h => e h.symm)]
set_option maxRecDepth 100000 in
set_option maxHeartbeats 4000000 in
theorem events11_any {w : World} {a : Option Addr} {n cap most : Nat} (xs : List Sm5) (h : Sm5sIn w a xs) (hn : xs.length = n) (hcap : n ≤ cap) (hm : most ≤ 100) :
  Calls Tryz.prog 21 #[.slice a n cap, .int .i64 most] w fun e w' => ∃ r, e = .returned r ∧ w'.ownsRow w.heap.size 30 5 r (evsK xs most).length (flatEv (evsK xs most)) ∧ Fr0 none' w w' := by
 obtain ⟨i0, hi, hz0, hz1, hz2⟩ := info_parts info_event0
 have Hn := Lib.hid hn
 have Hxs := Lib.hid h
 clear hn h
 have hmm := @run_makeMap Tryz.prog
 go_enter Tryz.func21, Tryz.ntmps21
 go_wp2_with fail
 clear hmm
 obtain ⟨m, hmn⟩ : ∃ m, min n most = m := ⟨_, rfl⟩
 have e1 : (min (n : Int) (most : Int)) = (m : Int) := by omega
 rw [e1]
 have e2 : (m : Int).toNat = m := by omega
 have e3 : max (m : Int) 0 = (m : Int) := by omega
 rw [e2, e3]
 have Hm := Lib.hid hmn
 have hm1 : m ≤ 100 := by omega
 have hmcap : m ≤ cap := by omega
 have hmx : ∀ k, k < m → ∃ x, xs[k]? = some x := fun k hk => ⟨_, List.getElem?_eq_getElem (by have := Hn.out; omega)⟩
 have hev : evsK xs most = dedK ((xs.take m).map madeV) := by
  unfold evsK
  rw [← hmn, ← Hn.out, Nat.min_comm, ← List.take_eq_take_min]
 have Hmx := Lib.hid hmx
 have Hev := Lib.hid hev
 clear e1 e2 e3 hmn hmx hev
 obtain ⟨B, hB⟩ : ∃ B, w.heap.size = B := ⟨_, rfl⟩
 obtain ⟨W2, hW2⟩ : ∃ W, w.alloc (.map #[] 0) = W := ⟨_, rfl⟩
 have M2 := Lib.hid (show MgIs Tryz.prog 28 keyV W2 B 0 (fun _ => none) by rw [← hW2, ← hB]; exact mg_made w)
 have F2 := Lib.hid (show Fr0 none' w W2 by rw [← hW2]; exact (Fr0.refl _ _).alloc _)
 have HB := Lib.hid hB
 rw [hW2]
 try rw [hB]
 clear hW2 hB
 go_loopw [5, 8, 9, 18] (fun v _ _ i wr => ∃ k : Nat, k ≤ m ∧ i = .int .i64 k ∧ Hid (wr.ownsRow (B + 1) 30 5 v (dedK ((xs.take k).map madeV)).length (flatEv (dedK ((xs.take k).map madeV)))) ∧ Hid (MgIs Tryz.prog 28 keyV wr B k (fun nm => if cntY ((xs.take k).map madeV) nm = 0 then none else some (cntY ((xs.take k).map madeV) nm : Nat))) ∧ Hid (Fr0 none' w wr)) (fun _ _ _ i _ => m - (Go.RowKit.intOf i).toNat)
 case atStart => exact ⟨0, Nat.zero_le _, rfl, World.ownsRow_nil _ _ _ _, M2, F2⟩
 case round =>
  obtain ⟨k, hk, rfl, hrow, hmet, hfr⟩ := hrel
  by_cases hlt : k < m
  ·obtain ⟨x, hx⟩ := Hmx.out k hlt
   obtain ⟨hok, g2, o, rfl, c0, c1, c2, c3, c4⟩ := Hxs.out k x hx
   have x0 := hfr.out.later c0
   have x1 := hfr.out.later c1
   have x2 := hfr.out.later c2
   have x3 := hfr.out.later c3
   have x4 := hfr.out.later c4
   have Hx := Lib.hid hx
   have HM := Lib.hid (fun W => made11_any x hok W)
   have HR := Lib.hid (madeV_r64 hok)
   obtain ⟨y, hy⟩ : ∃ y, madeV x = y := ⟨_, rfl⟩
   rw [hy] at HM HR
   have Hy := Lib.hid hy
   simp only [sm5V] at HM
   have k1 : (0 : Int) ≤ (k : Int) := by omega
   have k2 : (k : Int) < (m : Int) := by omega
   clear hx hok c0 c1 c2 c3 c4 hy
   go_wp2_with fail
   refine (HM.out _).mono ?_
   rintro e w4 ⟨rfl, hf4⟩
   have F4 := Lib.hid (show Fr0 none' wr w4 from ((Fr0.refl none' wr).alloc _).trans hf4)
   clear x0 x1 x2 x3 x4 hf4 HM
   simp only [evV]
   have HM4 := Lib.hid (hmet.out.fr0 F4.out id)
   go_wp2_with fail
   have hrow4 := Lib.hid (ownsRow_fr0 hrow.out F4.out (fun _ _ h => h))
   obtain ⟨q, hq⟩ : ∃ q, w4.heap.size = q := ⟨_, rfl⟩
   obtain ⟨W5, hW5⟩ : ∃ W, w4.alloc (.cells #[.int .i64 y.key.time, .int .i64 y.key.source, .int .i64 y.key.seq, .int .i64 y.to, .int .i64 y.value] 30) = W := ⟨_, rfl⟩
   have F5 := Lib.hid (show Fr0 none' w4 W5 by rw [← hW5]; exact (Fr0.refl none' w4).alloc _)
   have hbE := Lib.hid (show W5.heap[q]? = some (.cells #[.int .i64 y.key.time, .int .i64 y.key.source, .int .i64 y.key.seq, .int .i64 y.to, .int .i64 y.value] 30 (0, 0)) by rw [← hW5, ← hq]; exact World.alloc_heap_new w4 _)
   have HqB := Lib.hid (show B < q by rw [← hq]; exact HM4.out.lt)
   rw [hW5]
   try rw [hq]
   clear hW5 hq
   have F5D := Lib.hid ((Fr0.refl none' W5).drew)
   obtain ⟨WD, hWD⟩ : ∃ W, W5.drew = W := ⟨_, rfl⟩
   rw [hWD] at F5D
   have HM5 := Lib.hid (HM4.out.fr0 (F5.out.trans F5D.out) id)
   have hbE := Lib.hid ((F5D.out.block q (Array.getElem?_eq_some_iff.1 hbE.out).1 id).trans hbE.out)
   have F5 := Lib.hid (F5.out.trans F5D.out)
   clear F5D
   obtain ⟨kl, hkl⟩ := key_key_is HR.out
   obtain ⟨cn, hcn⟩ : ∃ cn, cntY ((xs.take k).map madeV) y.key = cn := ⟨_, rfl⟩
   have Hcn := Lib.hid hcn
   have hcl : cn ≤ k := by
    rw [← hcn]
    have h1 : cntY ((xs.take k).map madeV) y.key ≤ ((xs.take k).map madeV).length := List.countP_le_length
    rw [List.length_map, List.length_take] at h1
    omega
   obtain ⟨hlk, hup⟩ := (show _ ∧ _ from ⟨(HM5.out.look key_law Tryz.underlying117 (Tryz.zeroValue3 WD) hkl).2, HM5.out.up keyV_inj key_law Tryz.underlying117 (by unfold maxLen; omega) (fun u => Tryz.zeroValue3 u) hkl⟩)
   obtain ⟨o1, st, hr1, hl1, hup⟩ := hup
   obtain ⟨o2, hr2, hm2⟩ := hup ((cn : Int) + 1)
   have hcd : (if cn = 0 then none else some ((cn : Nat) : Int)).getD 0 = ((cn : Nat) : Int) := by
    split
    ·next h => rw [h]; rfl
    ·rfl
   simp only [hcn] at hlk hr1 hl1
   rw [hcd] at hlk hr1 hl1
   have hnv : keyV y.key = .agg #[.int .i64 y.key.time, .int .i64 y.key.source, .int .i64 y.key.seq] := rfl
   rw [hnv] at hlk hr1 hl1
   have Hm2 := Lib.hid hm2
   have Hkl := Lib.hid hkl
   have Hr1 := Lib.hid hr1
   have Hr2 := Lib.hid hr2
   have Hl1 := Lib.hid hl1
   have n0 := cells_in hbE.out 0
   have n1 := cells_in hbE.out 1
   have n2 := cells_in hbE.out 2
   simp at n0 n1 n2
   have w1 : IntKind.i64.wrap ((cn : Int) + 1) = (cn : Int) + 1 := IntWalk.i64_in _ (by omega)
   clear hcn hcd hnv hm2 hup hkl hr1 hr2 hl1
   refine wp_region_Z (z := 7) (S := fun W' => W'.cell? ⟨q, 0, none⟩ = some (.int .i64 y.key.time) ∧ W'.cell? ⟨q, 1, none⟩ = some (.int .i64 y.key.source) ∧ W'.cell? ⟨q, 2, none⟩ = some (.int .i64 y.key.seq) ∧ (Instr.lookup 117 (.map (some B)) (.agg #[.int .i64 y.key.time, .int .i64 y.key.source, .int .i64 y.key.seq]) false).run Tryz.prog W' = .ok (.int .i64 cn) W') (by kernel_rfl) ?_
   rw [hWD]
   clear hWD
   have hHeld : WD.cell? ⟨q, 0, none⟩ = some (.int .i64 y.key.time) ∧ WD.cell? ⟨q, 1, none⟩ = some (.int .i64 y.key.source) ∧ WD.cell? ⟨q, 2, none⟩ = some (.int .i64 y.key.seq) ∧ (Instr.lookup 117 (.map (some B)) (.agg #[.int .i64 y.key.time, .int .i64 y.key.source, .int .i64 y.key.seq]) false).run Tryz.prog WD = .ok (.int .i64 cn) WD := ⟨n0, n1, n2, hlk⟩
   clear n0 n1 n2 hlk
   refine takeZ_on (i := 0) (v := .map (some B)) rfl (by kernel_rfl) (by kernel_rfl) (by kernel_rfl) (by kernel_rfl) (fun _ _ _ h => h) (by kernel_rfl) (fun W' hSW => ?_) (by assumption) ?_
   ·obtain ⟨s1, s2, s3, s4⟩ := hSW
    first | (go_simp; done) | exact rfl | (go_simp; rfl) | (go_simp; omega)
   try simp only [pUt, pUn, sEt, sEz, sEs]
   refine takeZ_on (i := 1) (v := .pointer (some ⟨q, 0, none⟩)) rfl (by kernel_rfl) (by kernel_rfl) (by kernel_rfl) (by kernel_rfl) (fun _ _ _ h => h) (by kernel_rfl) (fun W' hSW => ?_) (by assumption) ?_
   ·obtain ⟨s1, s2, s3, s4⟩ := hSW
    first | (go_simp; done) | exact rfl | (go_simp; rfl) | (go_simp; omega)
   try simp only [pUt, pUn, sEt, sEz, sEs]
   refine takeZ_on (i := 2) (v := .agg #[.int .i64 y.key.time, .int .i64 y.key.source, .int .i64 y.key.seq]) rfl (by kernel_rfl) (by kernel_rfl) (by kernel_rfl) (by kernel_rfl) (fun _ _ _ h => h) (by kernel_rfl) (fun W' hSW => ?_) (by assumption) ?_
   ·obtain ⟨s1, s2, s3, s4⟩ := hSW
    first | (go_simp; done) | exact rfl | (go_simp; rfl) | (go_simp; omega)
   try simp only [pUt, pUn, sEt, sEz, sEs]
   refine takeZ_on (i := 3) (v := .int .i64 cn) rfl (by kernel_rfl) (by kernel_rfl) (by kernel_rfl) (by kernel_rfl) (fun _ _ _ h => h) (by kernel_rfl) (fun W' hSW => ?_) (by assumption) ?_
   ·obtain ⟨s1, s2, s3, s4⟩ := hSW
    first | (go_simp; done) | exact rfl | (go_simp; rfl) | (go_simp; omega)
   try simp only [pUt, pUn, sEt, sEz, sEs]
   refine takeZ_on (i := 4) (v := .int .i64 ((cn : Int) + 1)) rfl (by kernel_rfl) (by kernel_rfl) (by kernel_rfl) (by kernel_rfl) (fun _ _ _ h => h) (by kernel_rfl) (fun W' hSW => ?_) (by assumption) ?_
   ·obtain ⟨s1, s2, s3, s4⟩ := hSW
    first | (go_simp; done) | exact rfl | (go_simp; rfl) | (go_simp; omega)
   try simp only [pUt, pUn, sEt, sEz, sEs]
   refine takeZ_call (i := 5) rfl (by kernel_rfl) (by kernel_rfl) (fun K hK => ?_)
   have hr1 := Hr1.out
   go_simp
   clear hr1
   obtain ⟨W6, hW6⟩ : ∃ W, setBlock WD B o1 = W := ⟨_, rfl⟩
   have F6 := Lib.hid (show Fr0 (fun j => j = B) WD W6 by rw [← hW6]; exact (Fr0.refl (fun j => j = B) WD).setBlock (fun _ => rfl) _)
   have hB6 : W6.heap[B]? = some o1 := by rw [← hW6]; exact setBlock_same (Array.getElem?_eq_getElem HM5.out.lt)
   rw [hW6]
   have hHeld6 : W6.cell? ⟨q, 0, none⟩ = some (.int .i64 y.key.time) ∧ W6.cell? ⟨q, 1, none⟩ = some (.int .i64 y.key.source) ∧ W6.cell? ⟨q, 2, none⟩ = some (.int .i64 y.key.seq) ∧ (Instr.lookup 117 (.map (some B)) (.agg #[.int .i64 y.key.time, .int .i64 y.key.source, .int .i64 y.key.seq]) false).run Tryz.prog W6 = .ok (.int .i64 cn) W6 := by
    have hb := (F6.out.block q (Array.getElem?_eq_some_iff.1 hbE.out).1 (fun e => by have := HqB.out; omega)).trans hbE.out
    refine ⟨?_, ?_, ?_, Hl1.out W6 hB6⟩
    ·rw [cells_in hb]; rfl
    ·rw [cells_in hb]; rfl
    ·rw [cells_in hb]; rfl
   have hr2 := Hr2.out W6 hB6
   have Hr2 := Lib.hid hr2
   clear hW6 hB6 hHeld hr2
   refine hK.out _ _ (.inr hHeld6) ?_
   clear hK K
   try simp only [pUt, pUn, sEt, sEz, sEs]
   refine takeZ_call (i := 6) rfl (by kernel_rfl) (by kernel_rfl) (fun K hK => ?_)
   go_simp
   refine hK.out _ _ (.inr hHeld6) ?_
   clear hK K
   try simp only [pUt, pUn, sEt, sEz, sEs]
   refine takeZ_call (i := 7) rfl (by kernel_rfl) (by kernel_rfl) (fun K hK => ?_)
   have hr2 := Hr2.out
   go_simp
   clear hr2
   obtain ⟨W7, hW7⟩ : ∃ W, setBlock W6 B o2 = W := ⟨_, rfl⟩
   have F7 := Lib.hid (show Fr0 (fun j => j = B) WD W7 by rw [← hW7]; exact F6.out.trans ((Fr0.refl (fun j => j = B) W6).setBlock (fun _ => rfl) _))
   have M7 := Lib.hid (Hm2.out W7 (by rw [← hW7]; exact setBlock_same (Array.getElem?_eq_getElem (Nat.lt_of_lt_of_le HM5.out.lt F6.out.size))))
   rw [hW7]
   clear hW7
   refine hK.out _ _ (.inl rfl) ?_
   clear hK K hHeld6
   try simp only [pUt, pUn, sEt, sEz, sEs]
   refine wpAnyZ_done (by kernel_rfl) ?_ _
   have hbE7 := Lib.hid ((F7.out.block q (Array.getElem?_eq_some_iff.1 hbE.out).1 (fun e => by have := HqB.out; omega)).trans hbE.out)
   have hlk := (M7.out.look key_law Tryz.underlying117 (Tryz.zeroValue3 W7) Hkl.out).2
   rw [if_pos rfl, show keyV y.key = .agg #[.int .i64 y.key.time, .int .i64 y.key.source, .int .i64 y.key.seq] from rfl] at hlk
   simp only [Option.getD_some] at hlk
   have n0 := cells_in hbE7.out 0
   have n1 := cells_in hbE7.out 1
   have n2 := cells_in hbE7.out 2
   simp at n0 n1 n2
   have Fw7 := Lib.hid (hfr.out.trans' (F4.out.trans F5.out |>.mono (fun _ _ h => h.elim) |>.trans F7.out) (fun i hi e => by have := HB.out; omega))
   have hrow7 := Lib.hid (ownsRow_fr0 (ownsRow_fr0 hrow4.out F5.out (fun _ _ h => h)) F7.out (fun g hg e => by have := (hrow4.out.lt g hg).1; omega))
   have htk : (xs.take (k + 1)).map madeV = (xs.take k).map madeV ++ [y] := by
    rw [List.take_add_one, Hx.out, ← Hy.out]
    simp
   have hded := dedK_snoc ((xs.take k).map madeV) y
   rw [← htk, dedK_any, cntY_any, Hcn.out] at hded
   have hcnt : ∀ nm, cntY ((xs.take (k + 1)).map madeV) nm = cntY ((xs.take k).map madeV) nm + if nm = y.key then 1 else 0 := fun nm => by rw [htk]; exact cntY_snoc _ _ _
   have hM7 := Lib.hid (show MgIs Tryz.prog 28 keyV W7 B (k + 1) (fun nm => if cntY ((xs.take (k + 1)).map madeV) nm = 0 then none else some (cntY ((xs.take (k + 1)).map madeV) nm : Nat)) by
    have h1 := M7.out
    refine cast ?_ h1
    congr 1
    funext nm
    rw [hcnt nm]
    by_cases e : nm = y.key
    ·subst e
     rw [if_pos rfl, if_pos rfl, Hcn.out, if_neg (by omega)]
     simp
    ·rw [if_neg e, if_neg e, Nat.add_zero])
   clear hcnt M7
   have Hded := Lib.hid hded
   clear hded htk
   obtain ⟨cv, hcv⟩ : ∃ cv, (cn : Int) + 1 = cv := ⟨_, rfl⟩
   rw [hcv] at hlk
   try rw [hcv]
   by_cases hc0 : cn = 0
   ·have d1 : (cv == 1) = true := by rw [← hcv, hc0]; rfl
    have Hc0 := Lib.hid hc0
    obtain ⟨va, vc, rfl, _, _⟩ := EsIn.of_own hrow7.out
    obtain ⟨kk, hkk⟩ : ∃ kk, (dedK ((xs.take k).map madeV)).length = kk := ⟨_, rfl⟩
    have Hkk := Lib.hid hkk
    have hkl : kk ≤ 100 := by
     rw [← hkk]
     have h1 := dedK_le ((xs.take k).map madeV)
     rw [List.length_map, List.length_take] at h1
     omega
    rw [hkk] at hrow7 ⊢
    have x3 := cells_in hbE7.out 3
    have x4 := cells_in hbE7.out 4
    simp at x3 x4
    have hsrc := Src.newRow (P := Tryz.prog) (size := 5) (tx := 22) (ty := 30) W7 Tryz.underlying22 1 1 (cev y) rfl (by simp [Value.oneCell', cev])
    simp only [cev] at hsrc
    have hbase : B + 1 ≤ W7.heap.size := hM7.out.lt
    clear hc0 hkk hcv
    go_wp2_with (at_builtin; refine wpList_append_k rfl _ _ 22 22 rfl (B + 1) 30 i0 (.agg #[.int .i64 0, .int .i64 0, .int .i64 0, .int .i64 0, .int .i64 0]) 5 40 Tryz.underlying22 hi hz0 hz1 hz2 rfl (by decide) (.slice va kk vc) kk _ rfl (ownsRow_fr0 hrow7.out ((Fr0.refl none' W7).alloc _) (fun _ _ h => h)) (.slice (some ⟨W7.heap.size, 0, none⟩) 1 1) 1 _ rfl hsrc (by unfold maxLen; omega) (by omega) (by simp; omega) ?_; intro v8 w8 hown hgrow hdr hob; have Hown := Lib.hid hown; have hfg : Fr0 (fun i => (Value.slice va kk vc).ownBlock = some i) W7 w8 := ((Fr0.refl _ W7).alloc _).grown hgrow (fun i hi _ => hi); have F8 := Lib.hid hfg; clear hown hgrow hdr hob x3 x4 hfg hsrc hlk n0 n1 n2)
    go_roundw
    case rel =>
     refine ⟨k + 1, by omega, by go_num, ?_, ?_, ?_⟩
     ·have h1 := Hown.out
      have h2 := Hded.out
      rw [if_neg (by simp [Hc0.out])] at h2
      rw [h2, List.length_append, flatEv_append, flatEv_single]
      rw [← Hkk.out] at h1
      exact h1
     ·exact hM7.out.fr0 F8.out (fun hs => by have := (hrow7.out.lt B hs).1; omega)
     ·exact Fw7.out.trans' F8.out (fun i hi hs => by have := (hrow7.out.lt i hs).1; have := HB.out; omega)
    case measure => simp [Go.RowKit.intOf]; omega
   ·have d1 : (cv == 1) = false := by simp; omega
    have Hc0 := Lib.hid hc0
    clear hc0 hcv
    go_wp2_with fail
    clear hlk n0 n1 n2
    go_roundw
    case rel =>
     refine ⟨k + 1, by omega, by go_num, ?_, hM7.out, Fw7.out⟩
     have h2 := Hded.out
     rw [if_pos (by simpa using Hc0.out)] at h2
     rw [h2]
     exact hrow7.out
    case measure => simp [Go.RowKit.intOf]; omega
  ·have hkm : k = m := by omega
   subst hkm
   go_wp2
   go_ret
   refine ⟨_, rfl, ?_, hfr.out⟩
   rw [Hev.out, HB.out]
   exact own_upE hrow.out (Nat.le_succ _)
end Go.Proofs.YtieeloealklkgaaGreat

/-
  slices.Grow and slices.Concat at what was told.
-/
namespace Go.Proofs
open Go.Shelf
end Go.Proofs
namespace Go.Proofs.YtieeloealklkgaaGreat
open Go Go.RowKit
attribute [local go_sem ↓] Go.wp_at_zero Go.wp_at_succ
attribute [local go_sem] Oper.semAt_some wide_fn wide_depth wide_fnR wide_depthR

theorem flatTd_one (L : List Td) : ∀ v ∈ flatTd L, v.oneCell' = true := fun v hv => by
 simp only [flatTd, List.mem_flatMap] at hv
 obtain ⟨p, _, hv⟩ := hv
 simp only [Td.cells, List.mem_cons, List.not_mem_nil, or_false] at hv
 rcases hv with rfl | rfl <;> rfl
theorem TdsIn.flat {w : World} {g o : Nat} {L : List Td} (h : TdsIn w (some ⟨g, o, none⟩) L) (j : Nat) (u : Value) (hj : (flatTd L)[j]? = some u) : w.cell? ⟨g, o + j, none⟩ = some u := by
 have hlt : j < L.length * 2 := by rw [← flatTd_length]; exact (List.getElem?_eq_some_iff.1 hj).1
 have hk : j / 2 < L.length := by omega
 obtain ⟨g', o', e, c0, c1⟩ := h (j / 2) L[j / 2] (List.getElem?_eq_getElem hk)
 injection e with e
 injection e with e1 e2
 subst e1; subst e2
 have h3 := flat_at td_len L (j / 2) (j % 2) (by omega)
 rw [show j / 2 * 2 + j % 2 = j by omega, List.getElem?_eq_getElem hk] at h3
 have h3 : some u = (L[j / 2].cells)[j % 2]? := hj.symm.trans h3
 have : j % 2 = 0 ∨ j % 2 = 1 := by omega
 rcases this with h | h
 ·rw [h] at h3; rw [show o + j = o + j / 2 * 2 by omega, h3]; exact c0
 ·rw [h] at h3; rw [show o + j = o + j / 2 * 2 + 1 by omega, h3]; exact c1
theorem TdsIn.src {w : World} {a : Option Addr} {L : List Td} {n : Nat} (h : TdsIn w a L) (hn : L.length = n) (cap : Nat) {tx e' : TypeId} (hk : Tryz.prog.underlying tx = some (.slice e')) : Src Tryz.prog 2 tx (.slice a n cap) n (flatTd L) w := by
 cases a with
 | none =>
  have hL : L = [] := by
   clear hn
   cases L with
   | nil => rfl
   | cons p r => obtain ⟨g, o, e, _⟩ := h 0 p rfl; cases e
  subst hL
  have hn : 0 = n := hn
  subst hn
  exact Src.ofNil w hk cap
 | some ad =>
  refine Src.ofSlice w hk ad n cap (flatTd L) (by rw [flatTd_length, hn]) (fun j u hj => ?_) (flatTd_one L)
  obtain ⟨g, o, s⟩ := ad
  obtain ⟨p, hp⟩ : ∃ p, L[0]? = some p := by
   cases L with
   | nil => simp [flatTd] at hj
   | cons p r => exact ⟨p, rfl⟩
  obtain ⟨g', o', e, _⟩ := h 0 p hp
  cases e
  rw [Addr.add_lit]
  exact h.flat j u hj
/-- Two rows among the arguments. -/
structure TwoRowsT (w : World) (lb : Nat) (a1 a2 : Option Addr) (n1 n2 c1 c2 : Nat) (L1 L2 : List Td) : Prop where
 blk : w.heap[lb]? = some (.cells #[.slice a1 n1 c1, .slice a2 n2 c2] 44 (0, 0))
 r1 : TdsIn w a1 L1
 r2 : TdsIn w a2 L2
 l1 : L1.length = n1
 l2 : L2.length = n2
 m : n1 ≤ 400 ∧ n2 ≤ 400
theorem TwoRowsT.later {w w' : World} {lb : Nat} {a1 a2 : Option Addr} {n1 n2 c1 c2 : Nat} {L1 L2 : List Td} (h : TwoRowsT w lb a1 a2 n1 n2 c1 c2 L1 L2) (hf : Fr0 none' w w') : TwoRowsT w' lb a1 a2 n1 n2 c1 c2 L1 L2 :=
 ⟨(hf.block lb (Array.getElem?_eq_some_iff.1 h.blk).1 id).trans h.blk, h.r1.later hf, h.r2.later hf, h.l1, h.l2, h.m⟩
end Go.Proofs.YtieeloealklkgaaGreat

/-
  CalendarParts.
-/
namespace Go.Proofs.YtieeloealklkgaaGreat
open Go Go.RowKit
attribute [local go_sem ↓] Go.wp_at_zero Go.wp_at_succ
attribute [local go_sem] Oper.semAt_some wide_fn wide_depth wide_fnR wide_depthR

/-- Where the rest of a row of acts starts. -/
def dC (cap n : Nat) (a : Option Addr) : Option Addr := if cap = n then a else a.map (fun x => x.add (n * 7))
theorem casIn_nil (W : World) (a : Option Addr) : CasIn W a [] := fun i x hx => by simp at hx
theorem CasIn.rest {W : World} {a : Option Addr} {S : List Ca} (h : CasIn W a S) {cap : Nat} (hc : S.length ≤ cap) (n : Nat) : CasIn W (dC cap n a) (S.drop n) := by
 unfold dC
 split
 ·next e =>
  rw [List.drop_of_length_le (by omega)]
  exact casIn_nil W a
 ·cases a with
  | none =>
   intro i x hx
   rw [List.getElem?_drop] at hx
   obtain ⟨g, o, e, _⟩ := h _ x hx
   cases e
  | some A =>
   intro i x hx
   have hx' := hx
   rw [List.getElem?_drop] at hx'
   obtain ⟨g, o, e, _⟩ := h _ x hx'
   injection e with e
   subst e
   have h1 := h.drop n i x hx
   rw [Option.map_some, Addr.add_mid]
   exact h1
theorem kinds_acts (l : List Smc) : ∀ a ∈ l.map actC, 1 ≤ a.kind ∧ a.kind ≤ 5 := fun a ha => by
 obtain ⟨x, _, rfl⟩ := List.mem_map.1 ha
 exact kindC_ok x.kind
end Go.Proofs.YtieeloealklkgaaGreat

/-
  The reference's Sorted, Count, Times.
-/
namespace Go.Proofs.YtieeloealklkgaaGreat
open Go Go.RowKit
attribute [local go_sem ↓] Go.wp_at_zero Go.wp_at_succ
attribute [local go_sem] Oper.semAt_some wide_fn wide_depth wide_fnR wide_depthR

end Go.Proofs.YtieeloealklkgaaGreat

/-
  The reference of layer 10: Less, Right, at, with.
-/
namespace Go.Proofs.YtieeloealklkgaaGreat
open Go Go.RowKit
attribute [local go_sem ↓] Go.wp_at_zero Go.wp_at_succ
attribute [local go_sem] Oper.semAt_some wide_fn wide_depth wide_fnR wide_depthR

end Go.Proofs.YtieeloealklkgaaGreat

/-
  The reference of layer 10: Take, Find.
-/
namespace Go.Proofs.YtieeloealklkgaaGreat
open Go Go.RowKit
attribute [local go_sem ↓] Go.wp_at_zero Go.wp_at_succ
attribute [local go_sem] Oper.semAt_some wide_fn wide_depth wide_fnR wide_depthR

/-- A queue of the reference: its capacity, its events in a row that lies in the old one's block, or in a new one. -/
def RAt (w' : World) (a : Option Addr) (N : Nat) (c : Int) (E : List Ev) (v : Value) : Prop := ∃ a' cap, v = .agg #[.int .i64 c, .slice a' E.length cap] ∧ E.length ≤ cap ∧ EsIn w' a' E ∧ ∀ g o s, a' = some ⟨g, o, s⟩ → (∃ o' s', a = some ⟨g, o', s'⟩) ∨ (N ≤ g ∧ g < w'.heap.size)
theorem RAt.same {w w' : World} {a : Option Addr} {N cap : Nat} {c : Int} {E : List Ev} (h : EsIn w a E) (hf : Fr0 none' w w') (hc : E.length ≤ cap) : RAt w' a N c E (.agg #[.int .i64 c, .slice a E.length cap]) :=
 ⟨a, cap, rfl, hc, h.later hf, fun g o s e => .inl ⟨o, s, e⟩⟩
theorem RAt.own {w' : World} {a : Option Addr} {base N : Nat} {c : Int} {E : List Ev} {v : Value} (h : w'.ownsRow base 30 5 v E.length (flatEv E)) (hb : N ≤ base) : RAt w' a N c E (.agg #[.int .i64 c, v]) := by
 have hlt := h.lt
 have hcap : ∀ a' cap, v = .slice a' E.length cap → E.length ≤ cap := fun a' cap hv => by
  rcases h.2 with ⟨h0, h1⟩ | ⟨g, cap', cur, hv', _, _, hn, _⟩
  ·omega
  ·rw [hv] at hv'; injection hv' with _ _ h; omega
 have hown := h.2
 obtain ⟨a', cap, rfl, _, he⟩ := EsIn.of_own h
 refine ⟨a', cap, rfl, hcap a' cap rfl, he, fun g o s e => .inr ?_⟩
 rcases hown with ⟨h0, h1⟩ | ⟨g', cap', cur, hv', hg, _⟩
 ·injection h0 with h0 _ _
  rw [h0] at e; cases e
 ·injection hv' with h1 _ _
  rw [h1] at e
  injection e with e
  injection e with e1 _ _
  subst e1
  have := hlt g' (by rw [h1]; rfl)
  omega
theorem RAt.rest {w w' : World} {a : Option Addr} {N cap m : Nat} {c : Int} {E : List Ev} (h : EsIn w a E) (hl : E.length = m) (hf : Fr0 none' w w') (hc : m ≤ cap) (n : Nat) (hn : n ≤ m) : RAt w' a N c (E.drop n) (.agg #[.int .i64 c, .slice (dR cap n a) (m - n) (cap - n)]) := by
 subst hl
 refine ⟨dR cap n a, cap - n, by rw [List.length_drop], by rw [List.length_drop]; omega, (h.later hf).restR hc n, fun g o s e => .inl ?_⟩
 unfold dR at e
 split at e
 ·exact ⟨o, s, e⟩
 ·cases a with
  | none => cases e
  | some A =>
   rw [Option.map_some] at e
   injection e with e
   have hb : (A.add (n * 5)).block = A.block := by unfold Addr.add; split <;> rfl
   rw [e] at hb
   obtain ⟨g', o', s'⟩ := A
   simp only at hb
   subst hb
   exact ⟨o', s', rfl⟩
end Go.Proofs.YtieeloealklkgaaGreat

/-
  The reference of layer 10: Put.
-/
namespace Go.Proofs.YtieeloealklkgaaGreat
open Go Go.RowKit
attribute [local go_sem ↓] Go.wp_at_zero Go.wp_at_succ
attribute [local go_sem] Oper.semAt_some wide_fn wide_depth wide_fnR wide_depthR

/-- Where a queue of the reference lies behind a put: as before, or in a new row. -/
def PutAt (w' : World) (a : Option Addr) (N : Nat) (c : Int) (E E' : List Ev) (v : Value) : Prop := (E' = E ∧ RAt w' a N c E v) ∨ RAt w' none N c E' v
theorem PutAt.at {w' : World} {a : Option Addr} {N : Nat} {c : Int} {E E' : List Ev} {v : Value} (h : PutAt w' a N c E E' v) : RAt w' a N c E' v := by
 rcases h with ⟨rfl, h⟩ | ⟨a', cap, h1, h2, h3, h4⟩
 ·exact h
 ·exact ⟨a', cap, h1, h2, h3, fun g o s e => (h4 g o s e).elim (fun ⟨_, _, e⟩ => by cases e) .inr⟩
end Go.Proofs.YtieeloealklkgaaGreat

/-
  The reference of layer 10: PutAll.
-/
namespace Go.Proofs.YtieeloealklkgaaGreat
open Go Go.RowKit
attribute [local go_sem ↓] Go.wp_at_zero Go.wp_at_succ
attribute [local go_sem] Oper.semAt_some wide_fn wide_depth wide_fnR wide_depthR

theorem RAt.base {w1 w2 : World} {a a' : Option Addr} {N N' : Nat} {c : Int} {E : List Ev} {v : Value} (h : RAt w2 a' N' c E v) (h0 : ∀ g o s, a' = some ⟨g, o, s⟩ → (∃ o' s', a = some ⟨g, o', s'⟩) ∨ (N ≤ g ∧ g < w1.heap.size)) (hN : N ≤ N') (hs : w1.heap.size ≤ w2.heap.size) : RAt w2 a N c E v := by
 obtain ⟨b, cap, h1, h2, h3, h4⟩ := h
 refine ⟨b, cap, h1, h2, h3, fun g o s e => ?_⟩
 rcases h4 g o s e with ⟨o', s', e'⟩ | h5
 ·rcases h0 g o' s' e' with h6 | h6
  ·exact .inl h6
  ·exact .inr (by omega)
 ·exact .inr (by omega)
end Go.Proofs.YtieeloealklkgaaGreat

/-
  The reference of layer 12: Odd, Right.
-/
namespace Go.Proofs.YtieeloealklkgaaGreat
open Go Go.RowKit
attribute [local go_sem ↓] Go.wp_at_zero Go.wp_at_succ
attribute [local go_sem] Oper.semAt_some wide_fn wide_depth wide_fnR wide_depthR

end Go.Proofs.YtieeloealklkgaaGreat

/-
  The reference of layer 10: Cancel.
-/
namespace Go.Proofs.YtieeloealklkgaaGreat
open Go Go.RowKit
attribute [local go_sem ↓] Go.wp_at_zero Go.wp_at_succ
attribute [local go_sem] Oper.semAt_some wide_fn wide_depth wide_fnR wide_depthR

end Go.Proofs.YtieeloealklkgaaGreat

/-
  The reference of layer 10: TakeBefore (no text of the queue).
-/
namespace Go.Proofs.YtieeloealklkgaaGreat
open Go Go.RowKit
attribute [local go_sem ↓] Go.wp_at_zero Go.wp_at_succ
attribute [local go_sem] Oper.semAt_some wide_fn wide_depth wide_fnR wide_depthR

end Go.Proofs.YtieeloealklkgaaGreat

/-
  The reference of layer 12: act.
-/
namespace Go.Proofs.YtieeloealklkgaaGreat
open Go Go.RowKit
attribute [local go_sem ↓] Go.wp_at_zero Go.wp_at_succ
attribute [local go_sem] Oper.semAt_some wide_fn wide_depth wide_fnR wide_depthR

/-- Where a row of the reference lies, if it has events: in an old one's block, which has some too, or in a new one. -/
def FromE (a b : Option Addr) (N M : Nat) (E F : List Ev) : Prop := ∀ g o s, b = some ⟨g, o, s⟩ → F ≠ [] → ((∃ o' s', a = some ⟨g, o', s'⟩) ∧ E ≠ []) ∨ (N ≤ g ∧ g < M)
theorem FromE.nil (a b : Option Addr) (N M : Nat) (E : List Ev) : FromE a b N M E [] := fun g o s e h => absurd rfl h
theorem FromE.mono {a b : Option Addr} {N N' M M' : Nat} {E F : List Ev} (h : FromE a b N M E F) (hN : N' ≤ N) (hM : M ≤ M') : FromE a b N' M' E F := fun g o s e h0 => (h g o s e h0).imp id (fun h => by omega)
theorem FromE.trans {a b c : Option Addr} {N N' M M' : Nat} {E F G : List Ev} (h : FromE a b N M E F) (h2 : FromE b c N' M' F G) (hN : N ≤ N') (hM : M ≤ M') : FromE a c N M' E G := fun g o s e h0 => by
 rcases h2 g o s e h0 with ⟨⟨o', s', e'⟩, h1⟩ | h3
 ·exact (h g o' s' e' h1).imp id (fun h => by omega)
 ·exact .inr (by omega)
theorem FromE.of {a b : Option Addr} {w' : World} {N N' : Nat} {E F : List Ev} (h : ∀ g o s, b = some ⟨g, o, s⟩ → (∃ o' s', a = some ⟨g, o', s'⟩) ∨ (N ≤ g ∧ g < w'.heap.size)) (hE : F ≠ [] → E ≠ []) (hN : N' ≤ N) : FromE a b N' w'.heap.size E F := fun g o s e h0 => (h g o s e).imp (fun h => ⟨h, hE h0⟩) (fun h => by omega)
theorem EsIn.off {S : Nat → Prop} {w w' : World} {a : Option Addr} {F : List Ev} (h : EsIn w a F) (hf : Fr0 S w w') (hS : ∀ g o s, a = some ⟨g, o, s⟩ → F ≠ [] → ¬ S g) : EsIn w' a F := by
 cases F with
 | nil => exact fun i x hx => by simp at hx
 | cons x r => exact h.fr0 hf (fun g o s e => hS g o s e (by simp))
/-- The boxes of act. -/
structure ActB (W : World) (N n : Nat) (a : Option Addr) (m cap : Nat) (x : Ca) : Prop where
 b0 : W.heap[N]? = some (.cells #[.int .i64 n, .slice a m cap] 128 (0, 0))
 b1 : W.heap[N + 1]? = some (.cells #[.int .u8 x.kind, .int .i64 x.x.key.time, .int .i64 x.x.key.source, .int .i64 x.x.key.seq, .int .i64 x.x.to, .int .i64 x.x.value, .int .i64 x.time] 75 (0, 0))
 b2 : W.heap[N + 1 + 1]? = some (.cells #[.int .i64 0, .slice none 0 0] 128 (0, 0))
 b3 : W.heap[N + 1 + 1 + 1]? = some (.cells #[.int .i64 0, .slice none 0 0] 130 (0, 0))
 b4 : W.heap[N + 1 + 1 + 1 + 1]? = some (.cells #[.int .i64 0, .int .i64 0, .int .i64 0, .int .i64 0, .int .i64 0] 30 (0, 0))
theorem ActB.later {W W' : World} {N n : Nat} {a : Option Addr} {m cap : Nat} {x : Ca} (h : ActB W N n a m cap x) (hf : Fr0 none' W W') : ActB W' N n a m cap x :=
 ⟨(hf.block _ (Array.getElem?_eq_some_iff.1 h.b0).1 id).trans h.b0, (hf.block _ (Array.getElem?_eq_some_iff.1 h.b1).1 id).trans h.b1, (hf.block _ (Array.getElem?_eq_some_iff.1 h.b2).1 id).trans h.b2, (hf.block _ (Array.getElem?_eq_some_iff.1 h.b3).1 id).trans h.b3, (hf.block _ (Array.getElem?_eq_some_iff.1 h.b4).1 id).trans h.b4⟩
end Go.Proofs.YtieeloealklkgaaGreat

/-
  The reference of layer 12: act, acts for the reference.
-/
namespace Go.Proofs.YtieeloealklkgaaGreat
open Go Go.RowKit
attribute [local go_sem ↓] Go.wp_at_zero Go.wp_at_succ
attribute [local go_sem] Oper.semAt_some wide_fn wide_depth wide_fnR wide_depthR

end Go.Proofs.YtieeloealklkgaaGreat

/-
  The reference of layer 12: Play.
-/
namespace Go.Proofs.YtieeloealklkgaaGreat
open Go Go.RowKit
attribute [local go_sem ↓] Go.wp_at_zero Go.wp_at_succ
attribute [local go_sem] Oper.semAt_some wide_fn wide_depth wide_fnR wide_depthR

/-- What was told, its events in memory, in an old row's block or behind N. -/
def RTds (w : World) (a : Option Addr) (N : Nat) (L : List Ev) (ys : List Td) : Prop := ∀ y ∈ ys, EsIn w y.sa y.evs ∧ y.sn = y.evs.length ∧ FromE a y.sa N w.heap.size L y.evs
theorem RTds.later {w w' : World} {a : Option Addr} {N : Nat} {L : List Ev} {ys : List Td} (h : RTds w a N L ys) (hf : Fr0 none' w w') : RTds w' a N L ys := fun y hy => ⟨(h y hy).1.later hf, (h y hy).2.1, (h y hy).2.2.mono (Nat.le_refl _) hf.size⟩
theorem RTds.nil (w : World) (a : Option Addr) (N : Nat) (L : List Ev) : RTds w a N L [] := fun y hy => by simp at hy
/-- The end of the reference's Play. -/
def EndRP (L : List Ev) (c : Int) (A : List Ca) (a : Option Addr) (w : World) (e : Ending) (w' : World) : Prop :=
 ∃ va vc u ys, e = .returned (.tuple #[.slice va (playC L c A).1.length vc, u, .int .i64 (playC L c A).2.2.1, .int .i64 (playC L c A).2.2.2]) ∧ (playC L c A).1.length ≤ vc ∧ EsIn w' va (playC L c A).1 ∧ FromE a va w.heap.size w'.heap.size L (playC L c A).1 ∧ w'.ownsRow w.heap.size 130 2 u (playC L c A).2.1.length (flatTd ys) ∧ ys.map Td.tl = (playC L c A).2.1 ∧ RTds w' a w.heap.size L ys ∧ Fr0 none' w w'
theorem EndRP.none {L : List Ev} {c : Int} {A : List Ca} {a : Option Addr} {w w' : World} {i f : Int} {e : Ending} (he : e = .returned (.tuple #[.slice none 0 0, .slice none 0 0, .int .i64 i, .int .i64 f])) (h : playC L c A = ([], [], i, f)) (hf : Fr0 none' w w') : EndRP L c A a w e w' := by
 unfold EndRP
 rw [h]
 exact ⟨Option.none, 0, _, [], he, Nat.le_refl _, fun i x hx => by simp at hx, FromE.nil _ _ _ _ _, World.ownsRow_nil _ _ _ _, rfl, RTds.nil _ _ _ _, hf⟩
/-- A row of events that is not in the row of what was told. -/
def OffRow (out : Value) (b : Option Addr) (F : List Ev) : Prop := ∀ g o s, b = some ⟨g, o, s⟩ → F ≠ [] → out.ownBlock ≠ some g
/-- Where the reference's Play stands. -/
structure RPl (w wr : World) (a : Option Addr) (n SB : Nat) (L E : List Ev) (va : Option Addr) (vc : Nat) (out : Value) (k : Nat) (ys : List Td) : Prop where
 bx : wr.heap[SB]? = some (.cells #[.int .i64 n, .slice va E.length vc] 128 (0, 0))
 cap : E.length ≤ vc
 es : EsIn wr va E
 fr : FromE a va (SB + 1) wr.heap.size L E
 row : wr.ownsRow (SB + 1) 130 2 out k (flatTd ys)
 tds : RTds wr a (SB + 1) L ys
 oe : OffRow out va E
 oy : ∀ y ∈ ys, OffRow out y.sa y.evs
 f : Fr0 none' w wr
theorem RPl.step {w wr W1 w3 W4 W5 w6 : World} {a va va' ya : Option Addr} {n SB vc vc' yc k : Nat} {L E E' evs : List Ev} {out out' : Value} {ys : List Td} {err : Int} (h : RPl w wr a n SB L E va vc out k ys) (hla : ∀ g o s, a = some ⟨g, o, s⟩ → L ≠ [] → g < w.heap.size) (hsb : w.heap.size ≤ SB)
  (f1 : Fr0 none' wr W1) (hs1 : W1.heap.size = wr.heap.size + 1) (f3 : Fr0 none' W1 w3) (hc' : E'.length ≤ vc') (he : EsIn w3 va' E') (hy : EsIn w3 ya evs) (fv : FromE va va' W1.heap.size w3.heap.size E E') (fy : FromE va ya W1.heap.size w3.heap.size E evs)
  (f4 : Fr0 (fun g => g = SB ∨ g = wr.heap.size) w3 W4) (b4 : W4.heap[SB]? = some (.cells #[.int .i64 n, .slice va' E'.length vc'] 128 (0, 0))) (f5 : Fr0 none' W4 W5)
  (f6 : Fr0 (fun g => out.ownBlock = some g) W5 w6) (row6 : w6.ownsRow (SB + 1) 130 2 out' (k + 1) (flatTd (ys ++ [⟨err, ya, evs.length, yc, evs⟩]))) (ob : ∀ g, out'.ownBlock = some g → out.ownBlock = some g ∨ W5.heap.size ≤ g) :
  RPl w w6 a n SB L E' va' vc' out' (k + 1) (ys ++ [⟨err, ya, evs.length, yc, evs⟩]) := by
 have hsz : SB < wr.heap.size := (Array.getElem?_eq_some_iff.1 h.bx).1
 have s3 := f3.size
 have s4 := f4.size
 have s5 := f5.size
 have s6 := f6.size
 have hw := h.f.size
 have hout : ∀ g, out.ownBlock = some g → SB + 1 ≤ g ∧ g < wr.heap.size := fun g hg => h.row.lt g hg
 have old : ∀ b F, FromE a b (SB + 1) wr.heap.size L F → ∀ g o s, b = some ⟨g, o, s⟩ → F ≠ [] → g ≠ SB ∧ g < wr.heap.size := fun b F hf g o s e h0 => by
  rcases hf g o s e h0 with ⟨⟨o', s', e'⟩, h1⟩ | h1
  ·have := hla g o' s' e' h1; omega
  ·omega
 have key : ∀ b F, FromE va b W1.heap.size w3.heap.size E F → ∀ g o s, b = some ⟨g, o, s⟩ → F ≠ [] → (g ≠ SB ∧ g ≠ wr.heap.size ∧ g < w3.heap.size) ∧ out.ownBlock ≠ some g := fun b F hf g o s e h0 => by
  rcases hf g o s e h0 with ⟨⟨o', s', e'⟩, h1⟩ | h1
  ·have := old va E h.fr g o' s' e' h1
   exact ⟨by omega, h.oe g o' s' e' h1⟩
  ·exact ⟨by omega, fun hg => by have := hout g hg; omega⟩
 have far : ∀ b F, EsIn w3 b F → FromE va b W1.heap.size w3.heap.size E F → EsIn w6 b F := fun b F hb hf => by
  have h4 := hb.off f4 (fun g o s e h0 hk => by have := (key b F hf g o s e h0).1; omega)
  exact (h4.later f5).off f6 (fun g o s e h0 hk => (key b F hf g o s e h0).2 hk)
 have from' : ∀ b F, FromE va b W1.heap.size w3.heap.size E F → FromE a b (SB + 1) w6.heap.size L F := fun b F hf => (h.fr.trans hf (by omega) (by omega)).mono (Nat.le_refl _) (by omega)
 have offn : ∀ b F, FromE va b W1.heap.size w3.heap.size E F → OffRow out' b F := fun b F hf g o s e h0 hg => by
  have hk := key b F hf g o s e h0
  rcases ob g hg with h1 | h1
  ·exact hk.2 h1
  ·omega
 have f13 : Fr0 none' wr w3 := f1.trans f3
 have hbn : out.ownBlock ≠ some SB := fun hg => by have := hout SB hg; omega
 refine ⟨?_, hc', far va' E' he fv, from' va' E' fv, row6, fun y hy' => ?_, offn va' E' fv, fun y hy' => ?_, ?_⟩
 ·have b5 := (f5.block SB (Array.getElem?_eq_some_iff.1 b4).1 id).trans b4
  exact (f6.block SB (Array.getElem?_eq_some_iff.1 b5).1 hbn).trans b5
 ·rcases List.mem_append.1 hy' with hy' | hy'
  ·obtain ⟨t1, t2, t3⟩ := h.tds y hy'
   have t4 := (t1.later f13).off f4 (fun g o s e h0 hk => by have := old y.sa y.evs t3 g o s e h0; omega)
   exact ⟨(t4.later f5).off f6 (fun g o s e h0 hk => h.oy y hy' g o s e h0 hk), t2, t3.mono (Nat.le_refl _) (by omega)⟩
  ·obtain rfl := List.mem_singleton.1 hy'
   exact ⟨far ya evs hy fy, rfl, from' ya evs fy⟩
 ·rcases List.mem_append.1 hy' with hy' | hy'
  ·intro g o s e h0 hg
   rcases ob g hg with h1 | h1
   ·exact h.oy y hy' g o s e h0 h1
   ·have := old y.sa y.evs (h.tds y hy').2.2 g o s e h0; omega
  ·obtain rfl := List.mem_singleton.1 hy'
   exact offn ya evs fy
 ·exact (((h.f.trans f13).trans' f4 (fun g hg hk => by exfalso; rcases hk with rfl | rfl <;> omega)).trans f5).trans' f6 (fun g hg hk => by exfalso; have := hout g hk; omega)
end Go.Proofs.YtieeloealklkgaaGreat

/-
  told: what acts told, compared with what the reference tells.
-/
namespace Go.Proofs.YtieeloealklkgaaGreat
open Go Go.RowKit
attribute [local go_sem ↓] Go.wp_at_zero Go.wp_at_succ
attribute [local go_sem] Oper.semAt_some wide_fn wide_depth wide_fnR wide_depthR

end Go.Proofs.YtieeloealklkgaaGreat

/-
  CalendarTells: tells.
-/
namespace Go.Proofs.YtieeloealklkgaaGreat
open Go Go.RowKit
attribute [local go_sem ↓] Go.wp_at_zero Go.wp_at_succ
attribute [local go_sem] Oper.semAt_some wide_fn wide_depth wide_fnR wide_depthR

theorem EsIn.of_own' {w : World} {base : Nat} {a : Option Addr} {m c n : Nat} {L : List Ev} (h : w.ownsRow base 30 5 (.slice a m c) n (flatEv L)) : EsIn w a L := by
 obtain ⟨a', c', e, _, h1⟩ := EsIn.of_own h
 injection e with e1 _ _
 rw [e1]; exact h1
theorem TdsIn.of_own' {w : World} {base : Nat} {a : Option Addr} {m c n : Nat} {L : List Td} (h : w.ownsRow base 56 2 (.slice a m c) n (flatTd L)) : TdsIn w a L := by
 obtain ⟨a', c', e, _, h1⟩ := TdsIn.of_own h
 injection e with e1 _ _
 rw [e1]; exact h1
/-- A row of events that may be written. -/
def WrRow (w : World) (a : Option Addr) (n : Nat) : Prop := n = 0 ∨ ∃ g cu ty, a = some ⟨g, 0, none⟩ ∧ w.heap[g]? = some (.cells cu ty (0, 0)) ∧ n * 5 ≤ cu.size
theorem WrRow.of_own {w : World} {base : Nat} {a : Option Addr} {m c n : Nat} {xs : List Value} (h : w.ownsRow base 30 5 (.slice a m c) n xs) : WrRow w a n := by
 rcases h.2 with ⟨_, h0⟩ | ⟨g, cap, cur, e, hb, hg, hn, hcm, hs, ht⟩
 ·exact .inl h0
 ·injection e with e1 _ _
  exact .inr ⟨g, cur, _, e1, hg, by rw [hs]; exact Nat.mul_le_mul_right 5 hn⟩
theorem WrRow.fr0 {S : Nat → Prop} {w w' : World} {a : Option Addr} {n : Nat} (h : WrRow w a n) (hf : Fr0 S w w') (hS : ∀ g o s, a = some ⟨g, o, s⟩ → ¬ S g) : WrRow w' a n := by
 rcases h with h | ⟨g, cu, ty, e, hg, hs⟩
 ·exact .inl h
 ·exact .inr ⟨g, cu, ty, e, (hf.block g (Array.getElem?_eq_some_iff.1 hg).1 (hS g 0 none e)).trans hg, hs⟩
theorem WrRow.put {w : World} {a : Option Addr} {n i : Nat} (h : WrRow w a n) (hi : i < n) (v0 v1 v2 v3 v4 : Value) : ∃ g, a = some ⟨g, 0, none⟩ ∧ (∃ u0 u1 u2 u3 u4, w.cell? ⟨g, i * 5, none⟩ = some u0 ∧ w.cell? ⟨g, i * 5 + 1, none⟩ = some u1 ∧ w.cell? ⟨g, i * 5 + 2, none⟩ = some u2 ∧ w.cell? ⟨g, i * 5 + 3, none⟩ = some u3 ∧ w.cell? ⟨g, i * 5 + 4, none⟩ = some u4) ∧
  (w.frozen? ⟨g, i * 5, none⟩ = false ∧ w.frozen? ⟨g, i * 5 + 1, none⟩ = false ∧ w.frozen? ⟨g, i * 5 + 2, none⟩ = false ∧ w.frozen? ⟨g, i * 5 + 3, none⟩ = false ∧ w.frozen? ⟨g, i * 5 + 4, none⟩ = false) ∧
  WrRow (((((w.setCell ⟨g, i * 5, none⟩ v0).setCell ⟨g, i * 5 + 1, none⟩ v1).setCell ⟨g, i * 5 + 2, none⟩ v2).setCell ⟨g, i * 5 + 3, none⟩ v3).setCell ⟨g, i * 5 + 4, none⟩ v4) a n ∧
  Fr0 (fun k => ∃ o s, a = some ⟨k, o, s⟩) w (((((w.setCell ⟨g, i * 5, none⟩ v0).setCell ⟨g, i * 5 + 1, none⟩ v1).setCell ⟨g, i * 5 + 2, none⟩ v2).setCell ⟨g, i * 5 + 3, none⟩ v3).setCell ⟨g, i * 5 + 4, none⟩ v4) := by
 rcases h with h | ⟨g, cu, ty, rfl, hg, hs⟩
 ·omega
 ·have hc : ∀ j, j < n * 5 → ∃ u, w.cell? ⟨g, j, none⟩ = some u := fun j hj => ⟨cu[j], by rw [cells_in hg]; exact Array.getElem?_eq_getElem (by omega)⟩
  obtain ⟨u0, c0⟩ := hc (i * 5) (by omega)
  obtain ⟨u1, c1⟩ := hc (i * 5 + 1) (by omega)
  obtain ⟨u2, c2⟩ := hc (i * 5 + 2) (by omega)
  obtain ⟨u3, c3⟩ := hc (i * 5 + 3) (by omega)
  obtain ⟨u4, c4⟩ := hc (i * 5 + 4) (by omega)
  refine ⟨g, rfl, ⟨u0, u1, u2, u3, u4, c0, c1, c2, c3, c4⟩, ⟨thaw_in hg _, thaw_in hg _, thaw_in hg _, thaw_in hg _, thaw_in hg _⟩, .inr ⟨g, _, ty, rfl, heap_set_cell (heap_set_cell (heap_set_cell (heap_set_cell (heap_set_cell hg _) _) _) _) _, by simpa using hs⟩, ?_⟩
  exact (((((Fr0.refl _ _).setCell (fun _ => ⟨0, none, rfl⟩) _).setCell (fun _ => ⟨0, none, rfl⟩) _).setCell (fun _ => ⟨0, none, rfl⟩) _).setCell (fun _ => ⟨0, none, rfl⟩) _).setCell (fun _ => ⟨0, none, rfl⟩) _
def d2 (cap n : Nat) (a : Option Addr) : Option Addr := if cap = n then a else a.map (fun x => x.add (n * 2))
theorem TdsIn.drop {w : World} {g o : Nat} {L : List Td} (h : TdsIn w (some ⟨g, o, none⟩) L) (i : Nat) : TdsIn w (some ⟨g, o + i * 2, none⟩) (L.drop i) := fun j x hx => by
 rw [List.getElem?_drop] at hx
 obtain ⟨g', o', e, hc⟩ := h (i + j) x hx
 injection e with e
 injection e with e1 e2
 subst e1 e2
 refine ⟨g, o + i * 2, rfl, ?_⟩
 rw [show o + i * 2 + j * 2 = o + (i + j) * 2 by omega]
 exact hc
theorem TdsIn.rest {W : World} {a : Option Addr} {S : List Td} (h : TdsIn W a S) {cap : Nat} (hc : S.length ≤ cap) (n : Nat) : TdsIn W (d2 cap n a) (S.drop n) := by
 unfold d2
 split
 ·next e =>
  rw [List.drop_of_length_le (by omega)]
  exact fun i x hx => by simp at hx
 ·cases a with
  | none =>
   intro i x hx
   rw [List.getElem?_drop] at hx
   obtain ⟨g, o, e, _⟩ := h _ x hx
   cases e
  | some A =>
   intro i x hx
   have hx' := hx
   rw [List.getElem?_drop] at hx'
   obtain ⟨g, o, e, _⟩ := h _ x hx'
   injection e with e
   subst e
   have h1 := h.drop n i x hx
   rw [Option.map_some, Addr.add_mid]
   exact h1
/-- What tells has written so far: the events, and the rows of the first acts. -/
def SW (oa : Option Addr) (ys : List Td) (k g : Nat) : Prop := (∃ o s, oa = some ⟨g, o, s⟩) ∨ ∃ y ∈ ys.take k, y.v.ownBlock = some g
theorem SW.mono {oa : Option Addr} {ys : List Td} {j k g : Nat} (hjk : j ≤ k) (h : SW oa ys j g) : SW oa ys k g := h.imp id fun ⟨y, hy, e⟩ => ⟨y, by
 obtain ⟨i, hi, rfl⟩ := List.mem_take_iff_getElem.1 hy
 exact List.mem_take_iff_getElem.2 ⟨i, by omega, rfl⟩, e⟩
theorem SW.off {W : World} {T : List Tl} {ys : List Td} {v : Value} {base on oc : Nat} {oa : Option Addr} (hT : TdsOk W T ys v base (fun k => (Value.slice oa on oc).ownBlock = some k)) {j k g : Nat} {y : Td} (hy : ys[j]? = some y) (hk : k ≤ j) (hg : y.v.ownBlock = some g) : ¬ SW oa ys k g := by
 rintro (⟨o, s, e⟩ | ⟨z, hz, e⟩)
 ·exact (hT.out y (List.mem_of_getElem? hy) g hg).1 (by rw [e]; rfl)
 ·obtain ⟨i, hi, rfl⟩ := List.mem_take_iff_getElem.1 hz
  obtain ⟨hj, rfl⟩ := List.getElem?_eq_some_iff.1 hy
  exact List.pairwise_iff_getElem.1 hT.two i j (by omega) hj (by omega) g e hg
theorem CasIn.off {S : Nat → Prop} {w w' : World} {a : Option Addr} {F : List Ca} (h : CasIn w a F) (hf : Fr0 S w w') (hS : ∀ g o s, a = some ⟨g, o, s⟩ → F ≠ [] → ¬ S g) : CasIn w' a F := by
 cases F with
 | nil => exact fun i x hx => by simp at hx
 | cons x r => exact h.fr0 hf (fun g o s e => hS g o s e (by simp))
end Go.Proofs.YtieeloealklkgaaGreat

/-
  The list with the least first event.
-/
namespace Go.Proofs.YtieeloealklkgaaGreat
open Go Go.RowKit
attribute [local go_sem ↓] Go.wp_at_zero Go.wp_at_succ
attribute [local go_sem] Oper.semAt_some wide_fn wide_depth wide_fnR wide_depthR

/-- A slice of events, by its value. -/
structure Lv where
 a : Option Addr
 n : Nat
 c : Nat
 evs : List Ev
def LvsIn (w : World) (a : Option Addr) (L : List Lv) : Prop := ∀ i x, L[i]? = some x → ∃ g o, a = some ⟨g, o, none⟩ ∧ w.cell? ⟨g, o + i, none⟩ = some (.slice x.a x.n x.c)
theorem LvsIn.later {w w' : World} {a : Option Addr} {L : List Lv} (h : LvsIn w a L) (hf : Fr0 none' w w') : LvsIn w' a L := fun i x hi => by
 obtain ⟨g, o, e, c⟩ := h i x hi
 exact ⟨g, o, e, hf.later c⟩
def LvEv (w : World) (L : List Lv) : Prop := ∀ x ∈ L, EsIn w x.a x.evs ∧ x.evs.length = x.n ∧ x.n ≤ 10000 ∧ x.n ≤ x.c
theorem LvEv.later {w w' : World} {L : List Lv} (h : LvEv w L) (hf : Fr0 none' w w') : LvEv w' L := fun x hx => ⟨(h x hx).1.later hf, (h x hx).2⟩
/-- The first event of a list. -/
def hdM (L : List (List Ev)) (i : Nat) : Option Ev := (L[i]?).bind List.head?
/-- Which of the first k lists has the least first event. -/
def lstM (L : List (List Ev)) : Nat → Nat × Bool
 | 0 => (0, false)
 | k + 1 => match hdM L k with
  | none => lstM L k
  | some x => if (lstM L k).2 = false then (k, true) else match hdM L (lstM L k).1 with
   | none => lstM L k
   | some y => if cmpK x.key y.key < 0 then (k, true) else lstM L k
theorem lstM_ok (L : List (List Ev)) : ∀ k, (lstM L k).2 = true → (lstM L k).1 < k ∧ ∃ y, hdM L (lstM L k).1 = some y
 | 0, h => by cases h
 | k + 1, h => by
  rw [lstM] at h ⊢
  cases hx : hdM L k with
  | none =>
   rw [hx] at h
   obtain ⟨h1, h2⟩ := lstM_ok L k h
   exact ⟨by simp only; omega, h2⟩
  | some x =>
   rw [hx] at h
   simp only at h ⊢
   by_cases hf : (lstM L k).2 = false
   ·rw [if_pos hf]; exact ⟨by simp only; omega, x, hx⟩
   ·rw [if_neg hf] at h ⊢
    obtain ⟨h1, y, h2⟩ := lstM_ok L k (by simpa using hf)
    rw [h2] at h ⊢
    simp only at h ⊢
    split
    ·exact ⟨by simp only; omega, x, hx⟩
    ·exact ⟨by omega, y, h2⟩
theorem lstM_false (L : List (List Ev)) : ∀ k, (lstM L k).2 = false → (lstM L k).1 = 0 ∧ ∀ i, i < k → hdM L i = none
 | 0, _ => ⟨rfl, fun i h => by omega⟩
 | k + 1, h => by
  rw [lstM] at h ⊢
  cases hx : hdM L k with
  | none =>
   rw [hx] at h
   obtain ⟨h1, h2⟩ := lstM_false L k h
   refine ⟨h1, fun i hi => ?_⟩
   by_cases e : i = k
   ·rw [e]; exact hx
   ·exact h2 i (by omega)
  | some x =>
   rw [hx] at h
   simp only at h
   by_cases hf : (lstM L k).2 = false
   ·rw [if_pos hf] at h; cases h
   ·rw [if_neg hf] at h
    obtain ⟨h1, y, h2⟩ := lstM_ok L k (by simpa using hf)
    rw [h2] at h
    simp only at h
    split at h
    ·cases h
    ·exact absurd h hf
theorem lstM_least (L : List (List Ev)) : ∀ k, (lstM L k).2 = true → ∀ y, hdM L (lstM L k).1 = some y → ∀ i x, i < k → hdM L i = some x → 0 ≤ cmpK x.key y.key
 | 0, h, _, _, _, _, _, _ => by cases h
 | k + 1, h, y, hy, i, x, hi, hx => by
  rw [lstM] at h hy
  cases hz : hdM L k with
  | none =>
   rw [hz] at h hy
   by_cases e : i = k
   ·rw [e, hz] at hx; cases hx
   ·exact lstM_least L k h y hy i x (by omega) hx
  | some z =>
   rw [hz] at h hy
   simp only at h hy
   by_cases hf : (lstM L k).2 = false
   ·rw [if_pos hf] at hy
    simp only at hy
    rw [hz] at hy
    cases hy
    by_cases e : i = k
    ·rw [e, hz] at hx; cases hx
     exact Int.le_of_eq ((cmpK_eq _ _).2 rfl).symm
    ·have := (lstM_false L k hf).2 i (by omega)
     rw [this] at hx; cases hx
   ·rw [if_neg hf] at hy
    obtain ⟨h1, y0, h2⟩ := lstM_ok L k (by simpa using hf)
    rw [h2] at hy
    simp only at hy
    have hl := lstM_least L k (by simpa using hf) y0 h2
    split at hy
    ·next hlt =>
     simp only at hy
     rw [hz] at hy
     cases hy
     by_cases e : i = k
     ·rw [e, hz] at hx; cases hx
      exact Int.le_of_eq ((cmpK_eq _ _).2 rfl).symm
     ·have h3 := hl i x (by omega) hx
      exact Int.not_lt.1 (fun h => by have := cmpK_trans _ _ _ h hlt; omega)
    ·next hge =>
     rw [h2] at hy
     cases hy
     by_cases e : i = k
     ·rw [e, hz] at hx; cases hx
      omega
     ·exact hl i x (by omega) hx
set_option maxRecDepth 100000 in
set_option maxHeartbeats 4000000 in
theorem Least_any {w : World} {a : Option Addr} {n cap : Nat} (L : List Lv) (h : LvsIn w a L) (he : LvEv w L) (hl : L.length = n) (hn : n ≤ 10000) :
  Calls Tryz.prog 103 #[.slice a n cap] w fun e w' => e = .returned (.tuple #[.int .i64 ((lstM (L.map Lv.evs) n).1 : Nat), .bool (lstM (L.map Lv.evs) n).2]) ∧ Fr0 none' w w' := by
 have H := Lib.hid h
 have HE := Lib.hid he
 have Hl := Lib.hid hl
 obtain ⟨M, hM⟩ : ∃ M, L.map Lv.evs = M := ⟨_, rfl⟩
 rw [hM]
 have HM := Lib.hid hM
 clear h he hl hM
 go_enter Tryz.func103, Tryz.ntmps103
 go_wp2_with fail
 apply wp_scope_straight
 go_wp2_with fail
 apply wp_label
 go_wp2_with fail
 go_loopw [4, 5, 6, 7, 10] (fun at_ ok _ _ i wr => ∃ k : Nat, k ≤ n ∧ at_ = .int .i64 ((lstM M k).1 : Nat) ∧ ok = .bool (lstM M k).2 ∧ i = .int .i64 k ∧ Hid (Fr0 none' w wr)) (fun _ _ _ _ i _ => n - (Go.RowKit.intOf i).toNat)
 case atStart => exact ⟨0, Nat.zero_le _, rfl, rfl, rfl, Fr0.refl _ _⟩
 case round =>
  obtain ⟨k, hk, rfl, rfl, rfl, hfr⟩ := hrel
  by_cases hlt : k < n
  ·obtain ⟨x, hx⟩ : ∃ x, L[k]? = some x := ⟨_, List.getElem?_eq_getElem (by rw [Hl.out]; exact hlt)⟩
   obtain ⟨g, o, rfl, hxc⟩ := (H.out.later hfr.out) k x hx
   have hxe := (HE.out.later hfr.out) x (List.mem_of_getElem? hx)
   have k1 : (0 : Int) ≤ (k : Int) := by omega
   have k2 : (k : Int) < (n : Int) := by omega
   have hh : hdM M k = x.evs.head? := by
    unfold hdM
    rw [← HM.out, List.getElem?_map, hx]
    rfl
   obtain ⟨xa, xn, xc, xe⟩ := x
   simp only at hxc hxe hh
   have hst : lstM M (k + 1) = match hdM M k with
    | none => lstM M k
    | some x => if (lstM M k).2 = false then (k, true) else match hdM M (lstM M k).1 with
     | none => lstM M k
     | some y => if cmpK x.key y.key < 0 then (k, true) else lstM M k := rfl
   have hokk := lstM_ok M k
   obtain ⟨at_, hat⟩ : ∃ a, (lstM M k).1 = a := ⟨_, rfl⟩
   obtain ⟨b, hb⟩ : ∃ b, (lstM M k).2 = b := ⟨_, rfl⟩
   rw [hat, hb] at hst hokk ⊢
   cases xe with
   | nil =>
    have hn0 : xn = 0 := hxe.2.1.symm
    have d1 : ((xn : Int) == 0) = true := by rw [hn0]; rfl
    rw [hh] at hst
    have h2 : lstM M (k + 1) = lstM M k := hst
    have H1 := Lib.hid (show (lstM M (k + 1)).1 = at_ by rw [h2, hat])
    have H2 := Lib.hid (show (lstM M (k + 1)).2 = b by rw [h2, hb])
    clear hx hxe hh hst hokk hat hb hn0 h2
    go_wp2_with fail
    go_roundw
    case rel => exact ⟨k + 1, by omega, by rw [H1.out], by rw [H2.out], by go_num, hfr⟩
    case measure => simp [Go.RowKit.intOf]; omega
   | cons e r =>
    have hn0 : (xn : Int) ≠ 0 := by have := hxe.2.1; simp at this; omega
    have d1 : ((xn : Int) == 0) = false := beq_eq_false_iff_ne.2 hn0
    have d2 : (0 : Int) < (xn : Int) := by omega
    obtain ⟨g1, o1, rfl, hec⟩ := hxe.1 0 e rfl
    rw [Nat.zero_mul, Nat.add_zero] at hec
    obtain ⟨x0, x1, x2, x3, x4⟩ := hec
    rw [hh] at hst
    simp only [List.head?_cons] at hst
    cases b with
    | false =>
     rw [if_pos rfl] at hst
     have H1 := Lib.hid (show (lstM M (k + 1)).1 = k by rw [hst])
     have H2 := Lib.hid (show (lstM M (k + 1)).2 = true by rw [hst])
     clear hx hxe hh hst hokk hat hb hn0
     go_wp2_with fail
     refine wp_region_held_drew (S := fun W' => Fr0 none' wr W') (by kernel_rfl) ((Fr0.refl none' wr).drew) (fun hHeld => ?_)
     refine tkn (i := 0) (v := .bool false) (fun W' hSW => ?_) ?_
     ·first | (go_simp; done) | exact rfl | (go_simp; rfl) | (go_simp; omega)
     try simp only [pUt, pUn, sEt, sEz, sEs]
     refine tkn (i := 1) (v := .bool true) (fun W' hSW => ?_) ?_
     ·first | (go_simp; done) | exact rfl | (go_simp; rfl) | (go_simp; omega)
     try simp only [pUt, pUn, sEt, sEz, sEs]
     refine tkn (i := 2) (v := .bool true) (fun W' hSW => ?_) ?_
     ·first | (go_simp; done) | exact rfl | (go_simp; rfl) | (go_simp; omega)
     try simp only [pUt, pUn, sEt, sEz, sEs]
     refine take_off (i := 3) rfl (by kernel_rfl) (by kernel_rfl) (by kernel_rfl) (fun _ _ _ h => h) (by kernel_rfl) (by assumption) ?_
     try simp only [pUt, pUn, sEt, sEz, sEs]
     refine take_off (i := 4) rfl (by kernel_rfl) (by kernel_rfl) (by kernel_rfl) (fun _ _ _ h => h) (by kernel_rfl) (by assumption) ?_
     try simp only [pUt, pUn, sEt, sEz, sEs]
     refine take_off (i := 5) rfl (by kernel_rfl) (by kernel_rfl) (by kernel_rfl) (fun _ _ _ h => h) (by kernel_rfl) (by assumption) ?_
     try simp only [pUt, pUn, sEt, sEz, sEs]
     refine take_off (i := 6) rfl (by kernel_rfl) (by kernel_rfl) (by kernel_rfl) (fun _ _ _ h => h) (by kernel_rfl) (by assumption) ?_
     try simp only [pUt, pUn, sEt, sEz, sEs]
     refine take_off (i := 7) rfl (by kernel_rfl) (by kernel_rfl) (by kernel_rfl) (fun _ _ _ h => h) (by kernel_rfl) (by assumption) ?_
     try simp only [pUt, pUn, sEt, sEz, sEs]
     refine take_off (i := 8) rfl (by kernel_rfl) (by kernel_rfl) (by kernel_rfl) (fun _ _ _ h => h) (by kernel_rfl) (by assumption) ?_
     try simp only [pUt, pUn, sEt, sEz, sEs]
     refine take_off (i := 9) rfl (by kernel_rfl) (by kernel_rfl) (by kernel_rfl) (fun _ _ _ h => h) (by kernel_rfl) (by assumption) ?_
     try simp only [pUt, pUn, sEt, sEz, sEs]
     refine take_off (i := 10) rfl (by kernel_rfl) (by kernel_rfl) (by kernel_rfl) (fun _ _ _ h => h) (by kernel_rfl) (by assumption) ?_
     try simp only [pUt, pUn, sEt, sEz, sEs]
     refine take_off (i := 11) rfl (by kernel_rfl) (by kernel_rfl) (by kernel_rfl) (fun _ _ _ h => h) (by kernel_rfl) (by assumption) ?_
     try simp only [pUt, pUn, sEt, sEz, sEs]
     refine take_off (i := 12) rfl (by kernel_rfl) (by kernel_rfl) (by kernel_rfl) (fun _ _ _ h => h) (by kernel_rfl) (by assumption) ?_
     try simp only [pUt, pUn, sEt, sEz, sEs]
     refine tkn (i := 13) (v := .bool true) (fun W' hSW => ?_) ?_
     ·first | (go_simp; done) | exact rfl | (go_simp; rfl) | (go_simp; omega)
     try simp only [pUt, pUn, sEt, sEz, sEs]
     refine tkn (i := 14) (v := .bool true) (fun W' hSW => ?_) ?_
     ·first | (go_simp; done) | exact rfl | (go_simp; rfl) | (go_simp; omega)
     try simp only [pUt, pUn, sEt, sEz, sEs]
     refine wpAnyH_done (by kernel_rfl) ?_ _
     have FR := Lib.hid (hfr.out.trans hHeld)
     clear hHeld hfr
     go_wp2_with fail
     go_roundw
     case rel => exact ⟨k + 1, by omega, by rw [H1.out], by rw [H2.out], by go_num, FR⟩
     case measure => simp [Go.RowKit.intOf]; omega
    | true =>
     obtain ⟨hak, y, hy⟩ := hokk rfl
     rw [if_neg (by decide), hy] at hst
     simp only at hst
     obtain ⟨z, hz⟩ : ∃ z, L[at_]? = some z := ⟨_, List.getElem?_eq_getElem (by rw [Hl.out]; omega)⟩
     have hze := (HE.out.later hfr.out) z (List.mem_of_getElem? hz)
     obtain ⟨g', o', e', hzc⟩ := (H.out.later hfr.out) at_ z hz
     injection e' with e'
     injection e' with e1' e2' _
     subst e1'
     subst e2'
     have hzh : z.evs.head? = some y := by
      unfold hdM at hy
      rw [← HM.out, List.getElem?_map, hz] at hy
      exact hy
     obtain ⟨za, zn, zc, ze⟩ := z
     simp only at hzc hze hzh
     cases ze with
     | nil => cases hzh
     | cons f r2 =>
      cases hzh
      have z2 : (0 : Int) < (zn : Int) := by have := hze.2.1; simp at this; omega
      obtain ⟨g2, o2, rfl, hfc⟩ := hze.1 0 y rfl
      rw [Nat.zero_mul, Nat.add_zero] at hfc
      obtain ⟨y0, y1, y2, y3, y4⟩ := hfc
      have a1 : (0 : Int) ≤ (at_ : Int) := by omega
      have a2 : (at_ : Int) < (n : Int) := by omega
      have HB := Lib.hid (fun (W : World) => before_any e y W)
      have Hb := Lib.hid hb
      clear hx hxe hh hokk hb hn0 hy hz hze
      go_wp2_with fail
      have HL := Lib.hid (fun (W' : World) (hf : Fr0 none' wr W') => And.intro (hf.later x0) <| And.intro (hf.later x1) <| And.intro (hf.later x2) <| And.intro (hf.later x3) <| And.intro (hf.later x4) <| And.intro (hf.later hzc) <| And.intro (hf.later y0) <| And.intro (hf.later y1) <| And.intro (hf.later y2) <| And.intro (hf.later y3) (hf.later y4))
      clear x0 x1 x2 x3 x4 hzc y0 y1 y2 y3 y4
      refine wp_region_held_drew (S := fun W' => Fr0 none' wr W') (by kernel_rfl) ((Fr0.refl none' wr).drew) (fun hHeld => ?_)
      refine tkn (i := 0) (v := .bool true) (fun W' hSW => ?_) ?_
      ·obtain ⟨t0, t1, t2, t3, t4, t5, t6, t7, t8, t9, t10⟩ := HL.out W' hSW
       first | (go_simp; done) | exact rfl | (go_simp; rfl) | (go_simp; omega)
      try simp only [pUt, pUn, sEt, sEz, sEs]
      refine tkn (i := 1) (v := .bool false) (fun W' hSW => ?_) ?_
      ·obtain ⟨t0, t1, t2, t3, t4, t5, t6, t7, t8, t9, t10⟩ := HL.out W' hSW
       first | (go_simp; done) | exact rfl | (go_simp; rfl) | (go_simp; omega)
      try simp only [pUt, pUn, sEt, sEz, sEs]
      refine tkn (i := 2) (v := .bool false) (fun W' hSW => ?_) ?_
      ·obtain ⟨t0, t1, t2, t3, t4, t5, t6, t7, t8, t9, t10⟩ := HL.out W' hSW
       first | (go_simp; done) | exact rfl | (go_simp; rfl) | (go_simp; omega)
      try simp only [pUt, pUn, sEt, sEz, sEs]
      refine tkn (i := 3) (v := .slice (some ⟨g1, o1, none⟩) xn xc) (fun W' hSW => ?_) ?_
      ·obtain ⟨t0, t1, t2, t3, t4, t5, t6, t7, t8, t9, t10⟩ := HL.out W' hSW
       first | (go_simp; done) | exact rfl | (go_simp; rfl) | (go_simp; omega)
      try simp only [pUt, pUn, sEt, sEz, sEs]
      refine tkn (i := 4) (v := .pointer (some ⟨g1, o1, none⟩)) (fun W' hSW => ?_) ?_
      ·obtain ⟨t0, t1, t2, t3, t4, t5, t6, t7, t8, t9, t10⟩ := HL.out W' hSW
       first | (go_simp; done) | exact rfl | (go_simp; rfl) | (go_simp; omega)
      try simp only [pUt, pUn, sEt, sEz, sEs]
      refine tkn (i := 5) (v := .agg #[.int .i64 e.key.time, .int .i64 e.key.source, .int .i64 e.key.seq, .int .i64 e.to, .int .i64 e.value]) (fun W' hSW => ?_) ?_
      ·obtain ⟨t0, t1, t2, t3, t4, t5, t6, t7, t8, t9, t10⟩ := HL.out W' hSW
       first | (go_simp; done) | exact rfl | (go_simp; rfl) | (go_simp; omega)
      try simp only [pUt, pUn, sEt, sEz, sEs]
      refine tkn (i := 6) (v := .slice (some ⟨g, o, none⟩) n cap) (fun W' hSW => ?_) ?_
      ·obtain ⟨t0, t1, t2, t3, t4, t5, t6, t7, t8, t9, t10⟩ := HL.out W' hSW
       first | (go_simp; done) | exact rfl | (go_simp; rfl) | (go_simp; omega)
      try simp only [pUt, pUn, sEt, sEz, sEs]
      refine tkn (i := 7) (v := .int .i64 (at_ : Int)) (fun W' hSW => ?_) ?_
      ·obtain ⟨t0, t1, t2, t3, t4, t5, t6, t7, t8, t9, t10⟩ := HL.out W' hSW
       first | (go_simp; done) | exact rfl | (go_simp; rfl) | (go_simp; omega)
      try simp only [pUt, pUn, sEt, sEz, sEs]
      refine tkn (i := 8) (v := .pointer (some ⟨g, o + at_, none⟩)) (fun W' hSW => ?_) ?_
      ·obtain ⟨t0, t1, t2, t3, t4, t5, t6, t7, t8, t9, t10⟩ := HL.out W' hSW
       first | (go_simp; done) | exact rfl | (go_simp; rfl) | (go_simp; omega)
      try simp only [pUt, pUn, sEt, sEz, sEs]
      refine tkn (i := 9) (v := .slice (some ⟨g2, o2, none⟩) zn zc) (fun W' hSW => ?_) ?_
      ·obtain ⟨t0, t1, t2, t3, t4, t5, t6, t7, t8, t9, t10⟩ := HL.out W' hSW
       first | (go_simp; done) | exact rfl | (go_simp; rfl) | (go_simp; omega)
      try simp only [pUt, pUn, sEt, sEz, sEs]
      refine tkn (i := 10) (v := .pointer (some ⟨g2, o2, none⟩)) (fun W' hSW => ?_) ?_
      ·obtain ⟨t0, t1, t2, t3, t4, t5, t6, t7, t8, t9, t10⟩ := HL.out W' hSW
       first | (go_simp; done) | exact rfl | (go_simp; rfl) | (go_simp; omega)
      try simp only [pUt, pUn, sEt, sEz, sEs]
      refine tkn (i := 11) (v := .agg #[.int .i64 y.key.time, .int .i64 y.key.source, .int .i64 y.key.seq, .int .i64 y.to, .int .i64 y.value]) (fun W' hSW => ?_) ?_
      ·obtain ⟨t0, t1, t2, t3, t4, t5, t6, t7, t8, t9, t10⟩ := HL.out W' hSW
       first | (go_simp; done) | exact rfl | (go_simp; rfl) | (go_simp; omega)
      try simp only [pUt, pUn, sEt, sEz, sEs]
      refine take_call (i := 12) rfl (by kernel_rfl) (by kernel_rfl) (fun K hK => ?_)
      go_simp
      have HC := HB.out wr.drew
      simp only [evV] at HC
      refine HC.mono ?_
      clear HC
      rintro e' w5 ⟨rfl, hf5⟩
      have hHeld := hHeld.trans hf5
      clear hf5
      obtain ⟨d, hd⟩ : ∃ d, decide (cmpK e.key y.key < 0) = d := ⟨_, rfl⟩
      rw [hd]
      go_wp2_with fail
      refine hK.out _ _ hHeld (fun hS => ?_)
      clear hK K
      try simp only [pUt, pUn, sEt, sEz, sEs]
      refine tkn (i := 13) (v := .bool d) (fun W' hSW => ?_) ?_
      ·first | (go_simp; done) | exact rfl | (go_simp; rfl) | (go_simp; omega)
      try simp only [pUt, pUn, sEt, sEz, sEs]
      refine tkn (i := 14) (v := .bool d) (fun W' hSW => ?_) ?_
      ·first | (go_simp; done) | exact rfl | (go_simp; rfl) | (go_simp; omega)
      try simp only [pUt, pUn, sEt, sEz, sEs]
      refine wpAnyH_done (by kernel_rfl) ?_ _
      have FR := Lib.hid (hfr.out.trans hHeld)
      clear hHeld hfr hS HB
      cases d with
      | true =>
       rw [if_pos (of_decide_eq_true hd)] at hst
       have H1 := Lib.hid (show (lstM M (k + 1)).1 = k by rw [hst])
       have H2 := Lib.hid (show (lstM M (k + 1)).2 = true by rw [hst])
       clear hst hd hat
       go_wp2_with fail
       go_roundw
       case rel => exact ⟨k + 1, by omega, by rw [H1.out], by rw [H2.out], by go_num, FR⟩
       case measure => simp [Go.RowKit.intOf]; omega
      | false =>
       rw [if_neg (of_decide_eq_false hd)] at hst
       have H1 := Lib.hid (show (lstM M (k + 1)).1 = at_ by rw [hst, hat])
       have H2 := Lib.hid (show (lstM M (k + 1)).2 = true by rw [hst, Hb.out])
       clear hst hd hat
       go_wp2_with fail
       go_roundw
       case rel => exact ⟨k + 1, by omega, by rw [H1.out], by rw [H2.out], by go_num, FR⟩
       case measure => simp [Go.RowKit.intOf]; omega
  ·go_wp2_with fail
   simp only [Exit.noGoto]
   have hkn : k = n := by omega
   go_ret2
   exact ⟨by subst hkn; rfl, hfr.out⟩
end Go.Proofs.YtieeloealklkgaaGreat

/-
  The merge of lists, in plain words.
-/
namespace Go.Proofs.YtieeloealklkgaaGreat
open Go Go.RowKit

/-- The merge of lists, f events long. -/
def mrgE : Nat → List (List Ev) → List Ev
 | 0, _ => []
 | f + 1, M => match hdM M (lstM M M.length).1 with
  | none => []
  | some y => if (lstM M M.length).2 = true then y :: mrgE f (M.set (lstM M M.length).1 (M[(lstM M M.length).1]?.getD []).tail) else []
def totM (M : List (List Ev)) : Nat := (M.map List.length).sum
theorem totE_flat (M : List (List Ev)) : M.flatten.length = totM M := List.length_flatten
theorem hd_some {M : List (List Ev)} {i : Nat} {y : Ev} (h : hdM M i = some y) : ∃ r, M[i]? = some (y :: r) := by
 unfold hdM at h
 cases hm : M[i]? with
 | none => rw [hm] at h; cases h
 | some l =>
  rw [hm] at h
  cases l with
  | nil => cases h
  | cons a r => cases h; exact ⟨r, rfl⟩
theorem split_at {α : Type} {M : List α} {i : Nat} {x : α} (h : M[i]? = some x) (z : α) : M = M.take i ++ x :: M.drop (i + 1) ∧ M.set i z = M.take i ++ z :: M.drop (i + 1) := by
 obtain ⟨hi, e⟩ := List.getElem?_eq_some_iff.1 h
 refine ⟨?_, ?_⟩
 ·rw [← e, List.getElem_cons_drop, List.take_append_drop]
 ·rw [List.set_eq_take_append_cons_drop, if_pos hi]
theorem flat_take {M : List (List Ev)} {i : Nat} {y : Ev} {r : List Ev} (h : M[i]? = some (y :: r)) : M.flatten.Perm (y :: (M.set i r).flatten) := by
 obtain ⟨h1, h2⟩ := split_at h r
 rw [h2]
 conv => lhs; rw [h1]
 rw [List.flatten_append, List.flatten_append, List.flatten_cons, List.flatten_cons, List.cons_append]
 exact List.perm_middle
theorem tot_take {M : List (List Ev)} {i : Nat} {y : Ev} {r : List Ev} (h : M[i]? = some (y :: r)) : totM M = totM (M.set i r) + 1 := by
 have := (flat_take h).length_eq
 rw [List.length_cons, totE_flat, totE_flat] at this
 exact this
theorem tot_none {M : List (List Ev)} (h : (lstM M M.length).2 = false) : totM M = 0 := by
 have h1 := (lstM_false M M.length h).2
 rw [← totE_flat]
 have : M.flatten = [] := by
  rw [List.flatten_eq_nil_iff]
  intro l hl
  obtain ⟨i, hi⟩ := List.getElem?_of_mem hl
  have h2 := h1 i (List.getElem?_eq_some_iff.1 hi).1
  unfold hdM at h2
  rw [hi] at h2
  cases l with
  | nil => rfl
  | cons a r => cases h2
 rw [this]; rfl
theorem tot_some {M : List (List Ev)} (h : (lstM M M.length).2 = true) : ∃ y r, M[(lstM M M.length).1]? = some (y :: r) := by
 obtain ⟨_, y, hy⟩ := lstM_ok M M.length h
 obtain ⟨r, hr⟩ := hd_some hy
 exact ⟨y, r, hr⟩
theorem mrg_step {M : List (List Ev)} (h : (lstM M M.length).2 = true) {y : Ev} {r : List Ev} (hr : M[(lstM M M.length).1]? = some (y :: r)) (f : Nat) : mrgE (f + 1) M = y :: mrgE f (M.set (lstM M M.length).1 r) := by
 have hh : hdM M (lstM M M.length).1 = some y := by unfold hdM; rw [hr]; rfl
 rw [mrgE, hh]
 simp only
 rw [if_pos h, hr]
 rfl
theorem mrg_perm : ∀ (f : Nat) (M : List (List Ev)), totM M = f → (mrgE f M).Perm M.flatten
 | 0, M, h => by
  rw [← totE_flat] at h
  rw [List.eq_nil_of_length_eq_zero h]
  exact List.Perm.refl _
 | f + 1, M, h => by
  cases hb : (lstM M M.length).2 with
  | false => rw [tot_none hb] at h; cases h
  | true =>
   obtain ⟨y, r, hr⟩ := tot_some hb
   rw [mrg_step hb hr f]
   have h1 := tot_take hr
   exact ((mrg_perm f _ (by omega)).cons y).trans (flat_take hr).symm
theorem mrg_length {f : Nat} {M : List (List Ev)} (h : totM M = f) : (mrgE f M).length = f := by
 rw [(mrg_perm f M h).length_eq, totE_flat, h]
theorem mrg_asc : ∀ (f : Nat) (M : List (List Ev)), totM M = f → (∀ l ∈ M, AscE l) → M.flatten.Pairwise (fun x y => x.key ≠ y.key) → AscE (mrgE f M)
 | 0, _, _, _, _ => List.Pairwise.nil
 | f + 1, M, h, ha, hd => by
  cases hb : (lstM M M.length).2 with
  | false => rw [tot_none hb] at h; cases h
  | true =>
   obtain ⟨y, r, hr⟩ := tot_some hb
   rw [mrg_step hb hr f]
   have h1 := tot_take hr
   have hal : AscE (y :: r) := ha _ (List.mem_of_getElem? hr)
   have ha2 : ∀ l ∈ M.set (lstM M M.length).1 r, AscE l := fun l hl => by
    rcases List.mem_or_eq_of_mem_set hl with h | h
    ·exact ha l h
    ·rw [h]; exact (List.pairwise_cons.1 hal).2
   have hd2 : (y :: (M.set (lstM M M.length).1 r).flatten).Pairwise (fun x y => x.key ≠ y.key) := ((flat_take hr).pairwise_iff (fun h e => h e.symm)).1 hd
   obtain ⟨hd3, hd4⟩ := List.pairwise_cons.1 hd2
   refine List.pairwise_cons.2 ⟨fun z hz => ?_, mrg_asc f _ (by omega) ha2 hd4⟩
   have hz2 := (mrg_perm f _ (by omega)).mem_iff.1 hz
   have hne := hd3 z hz2
   obtain ⟨l, hl, hzl⟩ := List.mem_flatten.1 hz2
   have hyh : hdM M (lstM M M.length).1 = some y := by unfold hdM; rw [hr]; rfl
   have hle := lstM_least M M.length hb y hyh
   have hge : 0 ≤ cmpK z.key y.key := by
    rcases List.mem_or_eq_of_mem_set hl with h | h
    ·obtain ⟨i, hi⟩ := List.getElem?_of_mem h
     cases l with
     | nil => cases hzl
     | cons x s =>
      have h5 := hle i x (List.getElem?_eq_some_iff.1 hi).1 (by unfold hdM; rw [hi]; rfl)
      rcases List.mem_cons.1 hzl with rfl | hs
      ·exact h5
      ·have h6 := (List.pairwise_cons.1 (ha _ h)).1 z hs
       exact Int.not_lt.1 (fun hlt => by have := cmpK_trans _ _ _ h6 hlt; omega)
    ·rw [h] at hzl
     have h6 := (List.pairwise_cons.1 hal).1 z hzl
     rw [cmpK_anti]
     omega
   have hn0 : cmpK z.key y.key ≠ 0 := fun e => hne ((cmpK_eq _ _).1 e).symm
   have := cmpK_anti y.key z.key
   show cmpK y.key z.key < 0
   omega
end Go.Proofs.YtieeloealklkgaaGreat

/-
  The merge's iterator.
-/
namespace Go.Proofs.YtieeloealklkgaaGreat
open Go Go.RowKit
attribute [local go_sem ↓] Go.wp_at_zero Go.wp_at_succ
attribute [local go_sem] Oper.semAt_some wide_fn wide_depth wide_fnR wide_depthR

def Lv.v (x : Lv) : Value := .slice x.a x.n x.c
theorem lvs_one (L : List Lv) : ∀ v ∈ L.map Lv.v, v.oneCell' = true := fun v hv => by
 obtain ⟨p, _, rfl⟩ := List.mem_map.1 hv
 rfl
theorem LvsIn.src {w : World} {a : Option Addr} {L : List Lv} {n : Nat} (h : LvsIn w a L) (hn : L.length = n) (cap : Nat) {tx e' : TypeId} (hk : Tryz.prog.underlying tx = some (.slice e')) : Src Tryz.prog 1 tx (.slice a n cap) n (L.map Lv.v) w := by
 cases a with
 | none =>
  have hL : L = [] := by
   clear hn
   cases L with
   | nil => rfl
   | cons p r => obtain ⟨g, o, e, _⟩ := h 0 p rfl; cases e
  subst hL
  have hn : 0 = n := hn
  subst hn
  exact Src.ofNil w hk cap
 | some ad =>
  refine Src.ofSlice w hk ad n cap (L.map Lv.v) (by rw [List.length_map, hn, Nat.mul_one]) (fun j u hj => ?_) (lvs_one L)
  obtain ⟨g, o, s⟩ := ad
  rw [List.getElem?_map] at hj
  obtain ⟨p, hp, rfl⟩ := Option.map_eq_some_iff.1 hj
  obtain ⟨g', o', e, hc⟩ := h j p hp
  cases e
  rw [Addr.add_lit]
  exact hc
theorem info_evs0 : (Tryz.prog.info? 22).map (fun i => (i.zero, i.size, i.bytes)) = some (some (.slice none 0 0), 1, 24) := by kernel_rfl
set_option maxRecDepth 100000 in
set_option maxHeartbeats 2000000 in
/-- Clone of a list of lists. -/
theorem CloneL {w : World} {a : Option Addr} {n cap : Nat} (L : List Lv) (h : LvsIn w a L) (hl : L.length = n) (hn : n ≤ 1000000) :
  Calls Tryz.prog 102 #[.slice a n cap] w fun e w' => ∃ v, e = .returned v ∧ w'.ownsRow w.heap.size 22 1 v n (L.map Lv.v) ∧ Fr0 none' w w' := by
 obtain ⟨i0, hi0, hz0, hz1, hz2⟩ := info_parts info_evs0
 have q22 : ∀ (w : World) (a : Option Addr) (n c n' c' : Nat), (binOp .eql 34 (.slice a n c) (.slice none n' c')).run Tryz.prog w = .ok (.bool a.isNone) w := fun w a n c n' c' => Lib.run_eql_slice_nil w _ _ a n c n' c' Tryz.underlying34
 cases a with
 | none =>
  have hL : L = [] := by
   cases L with
   | nil => rfl
   | cons p r => obtain ⟨g, o, e, _⟩ := h 0 p rfl; cases e
  subst hL
  obtain rfl : n = 0 := by rw [← hl]; rfl
  go_enter Tryz.func102, Tryz.ntmps102
  go_wp2
  go_ret
  exact ⟨_, rfl, World.ownsRow_nil _ _ _ _, Fr0.refl _ _⟩
 | some a =>
  have hsrc := Lib.hid (fun (W : World) (hf : Fr0 none' w W) => (h.later hf).src hl cap Tryz.underlying34)
  clear h hl
  go_enter Tryz.func102, Tryz.ntmps102
  go_wp2_with (at_builtin; refine wpList_append_k rfl _ _ 34 34 rfl w.heap.size 22 i0 (.slice none 0 0) 1 24 Tryz.underlying34 hi0 hz0 hz1 hz2 rfl (by decide) (.slice (some ⟨w.heap.size, 0, none⟩) 0 0) 0 _ rfl (World.ownsRow_made w #[] 0 (Nat.le_refl _) (Nat.zero_le _) (by simp)) (.slice (some a) n cap) n _ rfl (hsrc.out _ ((Fr0.refl _ _).alloc _)) (by unfold maxLen; omega) (by omega) (by simp) ?_; intro v' w1 hown hgrow hdr hob)
  go_wp2
  go_ret
  exact ⟨_, rfl, by simpa using hown, ((Fr0.refl none' w).alloc _).grown hgrow (fun k hk hlt => by have : w.heap.size = k := Option.some.inj hk; omega)⟩
/-- A row of lists in a block. -/
def RowL (w : World) (g n cap : Nat) (R : List Lv) : Prop := ∃ cu ty, w.heap[g]? = some (.cells cu ty (0, 0)) ∧ n ≤ cap ∧ R.length = n ∧ cu.toList.take n = R.map Lv.v
theorem RowL.of_own {w : World} {base g n cap : Nat} {R : List Lv} (h : w.ownsRow base 22 1 (.slice (some ⟨g, 0, none⟩) n cap) n (R.map Lv.v)) : RowL w g n cap R := by
 have hl := h.1
 rcases h.2 with ⟨e, h0⟩ | ⟨g', cap', cur, e, hb, hg, hn, hcm, hs, ht⟩
 ·cases e
 ·cases e
  rw [List.length_map, Nat.mul_one] at hl
  rw [Nat.mul_one] at ht
  exact ⟨cur, _, hg, hn, hl, ht⟩
theorem RowL.of_block {w w' : World} {g n cap : Nat} {R : List Lv} (h : RowL w g n cap R) (hb : w'.heap[g]? = w.heap[g]?) : RowL w' g n cap R := by
 obtain ⟨cu, ty, hg, r⟩ := h
 exact ⟨cu, ty, hb.trans hg, r⟩
theorem RowL.lvs {w : World} {g n cap : Nat} {R : List Lv} (h : RowL w g n cap R) : LvsIn w (some ⟨g, 0, none⟩) R := fun i x hi => by
 obtain ⟨cu, ty, hg, hnc, hl, ht⟩ := h
 have hlt : i < n := by rw [← hl]; exact (List.getElem?_eq_some_iff.1 hi).1
 refine ⟨g, 0, rfl, ?_⟩
 have h1 : cu.toList[i]? = some x.v := by
  have h2 : (cu.toList.take n)[i]? = some x.v := by rw [ht, List.getElem?_map, hi]; rfl
  rwa [List.getElem?_take_of_lt hlt] at h2
 rw [Nat.zero_add, cells_in hg, ← Array.getElem?_toList, h1]
 rfl
theorem RowL.put {w : World} {g n cap i : Nat} {R : List Lv} (h : RowL w g n cap R) (x : Lv) : RowL (w.setCell ⟨g, i, none⟩ x.v) g n cap (R.set i x) := by
 obtain ⟨cu, ty, hg, hnc, hl, ht⟩ := h
 refine ⟨_, ty, heap_set_cell hg _, hnc, by rw [List.length_set]; exact hl, ?_⟩
 rw [Array.toList_setIfInBounds, List.take_set, ht, List.map_set]
theorem RowL.thaw {w : World} {g n cap : Nat} {R : List Lv} (h : RowL w g n cap R) (j : Nat) : w.frozen? ⟨g, j, none⟩ = false := by
 obtain ⟨cu, ty, hg, _⟩ := h
 exact thaw_in hg j
theorem EsIn.of_block {W W' : World} {a : Option Addr} {E : List Ev} (h : EsIn W a E) (hb : ∀ g o, a = some ⟨g, o, none⟩ → W'.heap[g]? = W.heap[g]?) : EsIn W' a E := fun i x hx => by
 obtain ⟨g, o, e, h0, h1, h2, h3, h4⟩ := h i x hx
 have hbg := hb g o e
 exact ⟨g, o, e, (World.cell?_of_block (w := W) hbg).trans h0, (World.cell?_of_block (w := W) hbg).trans h1, (World.cell?_of_block (w := W) hbg).trans h2, (World.cell?_of_block (w := W) hbg).trans h3, (World.cell?_of_block (w := W) hbg).trans h4⟩
/-- What is behind a list's first event. -/
def Lv.tail (x : Lv) : Lv := ⟨if x.c = 1 then x.a else x.a.map (fun y => y.add 5), x.n - 1, x.c - 1, x.evs.tail⟩
/-- The blocks that the lists are read from. -/
def rdL (cb : Nat) (a : Option Addr) (L : List Lv) (k : Nat) : Prop := k = cb ∨ (∃ o, a = some ⟨k, o, none⟩) ∨ ∃ x ∈ L, ∃ o, x.a = some ⟨k, o, none⟩
def lenV : Value → Nat
 | .slice _ n _ => n
 | _ => 0
/-- How many events are left. -/
def leftL (w : World) (g n : Nat) : Nat := match w.heap[g]? with
 | some (.cells cu _ _) => ((cu.toList.take n).map lenV).sum
 | _ => 0
theorem RowL.left {w : World} {g n cap : Nat} {R : List Lv} (h : RowL w g n cap R) (he : ∀ x ∈ R, x.evs.length = x.n) : leftL w g n = totM (R.map Lv.evs) := by
 obtain ⟨cu, ty, hg, hnc, hl, ht⟩ := h
 unfold leftL totM
 rw [hg]
 simp only
 rw [ht, List.map_map, List.map_map]
 congr 1
 exact List.map_congr_left (fun x hx => (he x hx).symm)
end Go.Proofs.YtieeloealklkgaaGreat

/-
  The merge's iterator: its walk.
-/
namespace Go.Proofs.YtieeloealklkgaaGreat
open Go Go.RowKit
attribute [local go_sem ↓] Go.wp_at_zero Go.wp_at_succ
attribute [local go_sem] Oper.semAt_some wide_fn wide_depth wide_fnR wide_depthR

theorem EsIn.of_old {W W' : World} {a : Option Addr} {E : List Ev} (h : EsIn W a E) (hb : ∀ g o, a = some ⟨g, o, none⟩ → g < W.heap.size → W'.heap[g]? = W.heap[g]?) : EsIn W' a E := fun i x hx => by
 obtain ⟨g, o, e, h0, h1, h2, h3, h4⟩ := h i x hx
 have hbg := hb g o e (World.block_lt_of_cell? _ _ h0)
 exact ⟨g, o, e, (World.cell?_of_block (w := W) hbg).trans h0, (World.cell?_of_block (w := W) hbg).trans h1, (World.cell?_of_block (w := W) hbg).trans h2, (World.cell?_of_block (w := W) hbg).trans h3, (World.cell?_of_block (w := W) hbg).trans h4⟩
theorem esIn_tail {W : World} {g o : Nat} {y : Ev} {r : List Ev} (h : EsIn W (some ⟨g, o, none⟩) (y :: r)) : EsIn W (some ⟨g, o + 5, none⟩) r := fun i z hz => by
 obtain ⟨g', o', e, hc⟩ := h (i + 1) z (by simpa using hz)
 injection e with e
 injection e with e1 e2 _
 subst e1
 subst e2
 rw [show o + (i + 1) * 5 = o + 5 + i * 5 by omega] at hc
 exact ⟨g, o + 5, rfl, hc⟩
set_option maxRecDepth 100000 in
set_option maxHeartbeats 4000000 in
theorem all_iter {w : World} {cb : Nat} {a : Option Addr} {n cap : Nat} (L : List Lv) (hb : Box w cb (.slice a n cap)) (h : LvsIn w a L) (he : LvEv w L) (hl : L.length = n) (hn : n ≤ 1000) (hn0 : 0 < n) :
  IterX0 Tryz.prog 101 #[.pointer (some ⟨cb, 0, none⟩)] (fun x : Ev => #[evV x]) (mrgE (totM (L.map Lv.evs)) (L.map Lv.evs)) none' (rdL cb a L) w := by
 intro l J Jx W hK hJ hJx hY h0
 obtain ⟨T, hT⟩ : ∃ T, totM (L.map Lv.evs) = T := ⟨_, rfl⟩
 rw [hT] at hY ⊢
 obtain ⟨xs, hxs⟩ : ∃ xs, mrgE T (L.map Lv.evs) = xs := ⟨_, rfl⟩
 have hxl : xs.length = T := by rw [← hxs]; exact mrg_length hT
 rw [hxs] at hY ⊢
 have HT := Lib.hid hT
 have Hxs := Lib.hid hxs
 have Hxl := Lib.hid hxl
 clear hT hxs hxl
 have hbW : Box W cb (.slice a n cap) := hb.of_block (hK.2 cb (.inl rfl))
 have hW : LvsIn W a L := fun i x hi => by
  obtain ⟨g, o, e, c⟩ := h i x hi
  exact ⟨g, o, e, (World.cell?_of_block (w := w) (hK.2 g (.inr (.inl ⟨o, e⟩)))).trans c⟩
 have hE : LvEv W L := fun x hx => ⟨(he x hx).1.of_block (fun g o e => hK.2 g (.inr (.inr ⟨x, hx, o, e⟩))), (he x hx).2⟩
 have HL := Lib.hid hW
 have HE := Lib.hid hE
 have Hl := Lib.hid hl
 have HY := Lib.hid hY
 have HJ := Lib.hid hJ
 have HB := Lib.hid hbW
 have hc := hbW.cell
 clear hY hJ hb hbW hK h he hW hE hl
 refine callsIn_of_wp Tryz.func101 rfl trivial ?_ rfl
 simp only [Tryz.ntmps101, List.size_toArray, List.length_cons, List.length_nil, Nat.reduceAdd, Nat.reduceSub, Array.replicate_succ, Array.replicate_zero, List.push_toArray, List.append_toArray, List.nil_append, List.cons_append]
 gi_wp2_with fail
 refine (callsIn_wide.2 (CloneL L HL.out Hl.out (by omega))).mono ?_
 rintro e w1 ⟨v, rfl, hrow, hf⟩
 obtain ⟨g, c, rfl, hrl⟩ : ∃ g c, v = .slice (some ⟨g, 0, none⟩) n c ∧ RowL w1 g n c L := by
  rcases hrow.2 with ⟨rfl, h0⟩ | ⟨g, cap, cur, rfl, _⟩
  ·omega
  ·exact ⟨g, cap, rfl, RowL.of_own hrow⟩
 have hgl := hrow.lt g rfl
 obtain ⟨X, hX⟩ : ∃ X : Nat → Prop, (fun k => k = g) = X := ⟨_, rfl⟩
 have hj1 : J 0 X w1 := HJ.out 0 none' _ W w1 h0 (hf.mono (fun k _ h => h.elim)) (fun k hk => .inr (by rw [← hX] at hk; have hk : k = g := hk; omega))
 have HX := Lib.hid (show ∀ k, X k ↔ k = g from fun k => by rw [← hX])
 have Hgl := Lib.hid hgl
 have Hrl := Lib.hid hrl
 have F1 := Lib.hid hf
 clear hrow hf hc h0 hX hrl
 gi_wp2_with fail
 gi_loopw [4, 5] (fun _ _ wr => ∃ (k : Nat) (R : List Lv), k ≤ T ∧ Hid (xs.drop k = mrgE (T - k) (R.map Lv.evs)) ∧ Hid (totM (R.map Lv.evs) = T - k) ∧ Hid (RowL wr g n c R) ∧ Hid (LvEv W R) ∧ Hid (∀ x ∈ R, ∀ b o, x.a = some ⟨b, o, none⟩ → rdL cb a L b) ∧ J k X wr ∧ Hid (w1.heap.size ≤ wr.heap.size ∧ ∀ b, rdL cb a L b → b < W.heap.size → wr.heap[b]? = W.heap[b]?)) (fun _ _ wr => leftL wr g n)
 case atStart => exact ⟨0, L, Nat.zero_le _, by rw [← Hxs.out]; rfl, HT.out, Hrl.out, HE.out, (fun x hx b o e => .inr (.inr ⟨x, hx, o, e⟩)), hj1, ⟨Nat.le_refl _, fun b _ hb => F1.out.block b hb id⟩⟩
 case round =>
  obtain ⟨k, R, hk, hdr, htt, hrw, hev, hrd, hj, hkp⟩ := hrel
  have hRl : R.length = n := by obtain ⟨_, _, _, _, h, _⟩ := hrw.out; exact h
  have hev2 : LvEv wr R := fun x hx => ⟨(hev.out x hx).1.of_old (fun b o e hb => hkp.out.2 b (hrd.out x hx b o e) hb), (hev.out x hx).2⟩
  have hlft : leftL wr g n = totM (R.map Lv.evs) := hrw.out.left (fun x hx => (hev.out x hx).2.1)
  have Hlft := Lib.hid hlft
  have Hev2 := Lib.hid hev2
  have HRl := Lib.hid hRl
  clear hRl hev2 hlft
  gi_wp2_with fail
  refine (callsIn_wide.2 (Least_any (cap := c) R hrw.out.lvs Hev2.out HRl.out (by omega))).mono ?_
  rintro e w2 ⟨rfl, hf2⟩
  obtain ⟨M, hM⟩ : ∃ M, R.map Lv.evs = M := ⟨_, rfl⟩
  have hMl : M.length = n := by rw [← hM, List.length_map, HRl.out]
  rw [hM] at hdr htt Hlft ⊢
  rw [← hMl]
  obtain ⟨i, hi⟩ : ∃ i, (lstM M M.length).1 = i := ⟨_, rfl⟩
  obtain ⟨b, hb⟩ : ∃ b, (lstM M M.length).2 = b := ⟨_, rfl⟩
  rw [hi, hb, hMl]
  have hj2 : J k X w2 := HJ.out k X X wr w2 hj (hf2.mono (fun _ _ h => h.elim)) (fun k hk => .inl hk)
  have F2 := Lib.hid hf2
  clear hj hf2
  cases b with
  | false =>
   have h0 := tot_none hb
   have hkT : k = xs.length := by rw [Hxl.out]; have := htt.out; omega
   have HJF := Lib.hid (show J xs.length X w2 by rw [← hkT]; exact hj2)
   clear hj2 hb hi hM hMl h0 hkT
   gi_wp2_with fail
   refine bodyPost_ret (results_none rfl _ _ _) rfl ?_
   exact ⟨⟨_, rfl⟩, .inl ⟨X, HJF.out⟩⟩
  | true =>
   obtain ⟨y, r, hr⟩ := tot_some hb
   rw [hi] at hr
   have hRi : ∃ x, R[i]? = some x ∧ x.evs = y :: r := by
    rw [← hM, List.getElem?_map] at hr
    exact Option.map_eq_some_iff.1 hr
   obtain ⟨x, hx, hxe⟩ := hRi
   have htt2 := tot_take hr
   obtain ⟨f, hf⟩ : ∃ f, T - k = f + 1 := ⟨T - k - 1, by have := htt.out; omega⟩
   have hstep : mrgE (T - k) M = y :: mrgE f (M.set i r) := by
    rw [hf]
    have := mrg_step hb (y := y) (r := r) (by rw [hi]; exact hr) f
    rw [hi] at this
    exact this
   have hd2 : xs.drop k = y :: mrgE f (M.set i r) := by rw [hdr.out, hstep]
   have hxk : xs[k]? = some y := by
    have := congrArg (fun l => l[0]?) hd2
    simpa using this
   have hd3 : xs.drop (k + 1) = mrgE (T - (k + 1)) (M.set i r) := by
    rw [show k + 1 = k + 1 from rfl, ← List.drop_drop, hd2, show T - (k + 1) = f by omega]
    rfl
   have hin : i < n := by rw [← HRl.out]; exact (List.getElem?_eq_some_iff.1 hx).1
   have hxm := List.mem_of_getElem? hx
   have hxE := (Hev2.out.later F2.out) x hxm
   obtain ⟨g', o', e', hc0⟩ := (hrw.out.lvs.later F2.out) i x hx
   injection e' with e'
   injection e' with e1' e2' _
   subst e1'
   subst e2'
   rw [Nat.zero_add] at hc0
   have Hxe := Lib.hid hxe
   have Hx := Lib.hid hx
   have Hd3 := Lib.hid hd3
   have Htt2 := Lib.hid htt2
   have HMs := Lib.hid hM
   obtain ⟨xa, xn, xc, xv⟩ := x
   simp only at hc0 hxE hxe
   subst hxe
   obtain ⟨g1, o1, rfl, hec⟩ := hxE.1 0 y rfl
   rw [Nat.zero_mul, Nat.add_zero] at hec
   obtain ⟨x0, x1, x2, x3, x4⟩ := hec
   have z1 : (0 : Int) ≤ (i : Int) := by omega
   have z2 : (i : Int) < (n : Int) := by omega
   have z3 : (0 : Int) < (xn : Int) := by have := hxE.2.1; simp at this; omega
   obtain ⟨fn, tmps, assign, body, hyy, hR⟩ := HY.out k y X w2 hxk hj2
   unfold evV at hyy
   have HR := Lib.hid hR
   have HXE := Lib.hid hxE
   clear hj2 hb hi hM hMl hr hx htt2 hf hstep hd2 hxk hd3 hxm hxE hR
   gi_wp2_with fail
   refine HR.out.mono ?_
   rintro e W3 (⟨rfl, hJ3, hk3⟩ | ⟨rfl, hJx3⟩)
   ·have HR3 := Lib.hid ((hrw.out.of_block (F2.out.block g (by obtain ⟨cu, ty, h, _⟩ := hrw.out; exact (Array.getElem?_eq_some_iff.1 h).1) id)).of_block (hk3.2 g (.inr ((HX.out g).2 rfl))))
    have hs3 : wr.heap.size ≤ W3.heap.size := Nat.le_trans F2.out.size hk3.1
    have hkp3 := Lib.hid (show w1.heap.size ≤ W3.heap.size ∧ ∀ b, rdL cb a L b → b < W.heap.size → W3.heap[b]? = W.heap[b]? from ⟨Nat.le_trans hkp.out.1 hs3, fun b h1 h2 => (hk3.2 b (.inl h1)).trans ((F2.out.block b (Nat.lt_of_lt_of_le h2 (Nat.le_trans F1.out.size hkp.out.1)) id).trans (hkp.out.2 b h1 h2))⟩)
    obtain ⟨_, _, e', hc3⟩ := HR3.out.lvs i _ Hx.out
    injection e' with e'
    injection e' with e1' e2' _
    subst e1'
    subst e2'
    rw [Nat.zero_add] at hc3
    simp only at hc3
    have ht3 := HR3.out.thaw i
    have HJ3 := Lib.hid hJ3
    have z4 : (1 : Int) ≤ (xn : Int) := by omega
    have z5 : (xn : Int) ≤ (xc : Int) := by have h5 : xn ≤ xc := HXE.out.2.2.2; omega
    clear hJ3 hk3 hs3 HR hc0 x0 x1 x2 x3 x4
    gi_wp2_with fail
    obtain ⟨ta, hta⟩ : ∃ ta : Option Addr, (if xc = 1 then some (⟨g1, o1, none⟩ : Addr) else some ⟨g1, o1 + 5, none⟩) = ta := ⟨_, rfl⟩
    rw [hta]
    have hput : RowL (W3.setCell ⟨g, i, none⟩ (.slice ta (xn - 1) (xc - 1))) g n c (R.set i ⟨ta, xn - 1, xc - 1, r⟩) := HR3.out.put ⟨ta, xn - 1, xc - 1, r⟩
    have hmap : (R.set i ⟨ta, xn - 1, xc - 1, r⟩).map Lv.evs = M.set i r := by rw [List.map_set, HMs.out]
    have hmem := List.mem_of_getElem? Hx.out
    obtain ⟨hq1, hq2, hq3, hq4⟩ := hev.out _ hmem
    simp only [List.length_cons] at hq1 hq2 hq3 hq4
    have hne : ∀ z ∈ R.set i ⟨ta, xn - 1, xc - 1, r⟩, EsIn W z.a z.evs ∧ z.evs.length = z.n ∧ z.n ≤ 10000 ∧ z.n ≤ z.c := fun z hz => by
     rcases List.mem_or_eq_of_mem_set hz with h | rfl
     ·exact hev.out z h
     ·refine ⟨?_, by simp only; omega, by simp only; omega, by simp only; omega⟩
      simp only
      rw [← hta]
      split
      ·have : r = [] := List.eq_nil_of_length_eq_zero (by omega)
       rw [this]
       exact fun j z hz => by simp at hz
      ·exact esIn_tail hq1
    have hrd2 : ∀ z ∈ R.set i ⟨ta, xn - 1, xc - 1, r⟩, ∀ b o, z.a = some ⟨b, o, none⟩ → rdL cb a L b := fun z hz b o e => by
     rcases List.mem_or_eq_of_mem_set hz with h | rfl
     ·exact hrd.out z h b o e
     ·simp only at e
      rw [← hta] at e
      have hb1 := hrd.out _ hmem g1 o1 rfl
      split at e
      ·injection e with e; injection e with e1; rw [← e1]; exact hb1
      ·injection e with e; injection e with e1; rw [← e1]; exact hb1
    have hfr : Fr0 (fun k => k = g) W3 (W3.setCell ⟨g, i, none⟩ (.slice ta (xn - 1) (xc - 1))) := (Fr0.refl (fun k => k = g) W3).setCell (fun _ => rfl) _
    have htt := htt.out
    have htt2 := Htt2.out
    refine ⟨⟨k + 1, R.set i ⟨ta, xn - 1, xc - 1, r⟩, by omega, by rw [hmap]; exact Hd3.out, ?_, hput, hne, hrd2, ?_, ?_⟩, ?_⟩
    ·rw [hmap]
     show totM (M.set i r) = T - (k + 1)
     omega
    ·exact HJ.out (k + 1) X X W3 _ HJ3.out (hfr.mono (fun k _ hk => .inr ((HX.out k).2 hk))) (fun k hk => .inl hk)
    ·refine ⟨Nat.le_trans hkp3.out.1 hfr.size, fun b h1 h2 => (hfr.block b ?_ ?_).trans (hkp3.out.2 b h1 h2)⟩
     ·have h3 := F1.out.size
      have h4 := hkp3.out.1
      omega
     ·intro e
      have e : b = g := e
      have := Hgl.out.1
      omega
    ·rw [hput.left (fun z hz => (hne z hz).2.1), hmap, Hlft.out]
     omega
   ·gi_wp2
    refine bodyPost_ret (results_none rfl _ _ _) rfl ?_
    exact ⟨⟨_, rfl⟩, .inr hJx3⟩
end Go.Proofs.YtieeloealklkgaaGreat

/-
  slices.Collect over the merge.
-/
namespace Go.Proofs.YtieeloealklkgaaGreat
open Go Go.RowKit
attribute [local go_sem ↓] Go.wp_at_zero Go.wp_at_succ
attribute [local go_sem] Oper.semAt_some wide_fn wide_depth wide_fnR wide_depthR

set_option maxRecDepth 100000 in
set_option maxHeartbeats 4000000 in
theorem all_iter0 {w : World} {cb : Nat} {a : Option Addr} {cap : Nat} (hb : Box w cb (.slice a 0 cap)) :
  IterX0 Tryz.prog 101 #[.pointer (some ⟨cb, 0, none⟩)] (fun x : Ev => #[evV x]) [] none' (rdL cb a []) w := by
 intro l J Jx W hK hJ hJx hY h0
 have hbW : Box W cb (.slice a 0 cap) := hb.of_block (hK.2 cb (.inl rfl))
 have HJ := Lib.hid hJ
 have hc := hbW.cell
 clear hY hJ hb hK
 refine callsIn_of_wp Tryz.func101 rfl trivial ?_ rfl
 simp only [Tryz.ntmps101, List.size_toArray, List.length_cons, List.length_nil, Nat.reduceAdd, Nat.reduceSub, Array.replicate_succ, Array.replicate_zero, List.push_toArray, List.append_toArray, List.nil_append, List.cons_append]
 gi_wp2_with fail
 refine (callsIn_wide.2 (CloneL (n := 0) (cap := cap) [] (fun i x hi => by simp at hi) rfl (by omega))).mono ?_
 rintro e w1 ⟨v, rfl, hrow, hf⟩
 obtain ⟨ga, gc, rfl⟩ : ∃ ga gc, v = .slice ga 0 gc := by
  rcases hrow.2 with ⟨rfl, h0⟩ | ⟨g, cap, cur, rfl, _⟩
  ·exact ⟨none, 0, rfl⟩
  ·exact ⟨_, cap, rfl⟩
 have hj1 : J 0 none' w1 := HJ.out 0 none' none' W w1 h0 (hf.mono (fun k _ h => h.elim)) (fun k hk => .inl hk)
 clear hrow hf hc h0 hbW
 gi_wp2_with fail
 gi_loopw [4, 5] (fun _ _ wr => J 0 none' wr) (fun _ _ _ => 0)
 case atStart => exact hj1
 case round =>
  gi_wp2_with fail
  refine (callsIn_wide.2 (Least_any (n := 0) (cap := gc) [] (fun i x hi => by simp at hi) (fun x hx => by simp at hx) rfl (by omega))).mono ?_
  rintro e w2 ⟨rfl, hf2⟩
  have hj2 : J 0 none' w2 := HJ.out 0 none' none' wr w2 hrel (hf2.mono (fun k _ h => h.elim)) (fun k hk => .inl hk)
  have d1 : (lstM (([] : List Lv).map Lv.evs) 0).2 = false := rfl
  rw [d1]
  clear hf2 hrel
  gi_wp2_with fail
  refine bodyPost_ret (results_none rfl _ _ _) rfl ?_
  exact ⟨⟨_, rfl⟩, .inl ⟨none', hj2⟩⟩
/-- The iterator's box: what merge.all makes. -/
theorem all_any {w : World} {a : Option Addr} {n cap : Nat} :
  Calls Tryz.prog 79 #[.slice a n cap] w fun e w' => e = .returned (.func (.func 101) #[] #[.pointer (some ⟨w.heap.size, 0, none⟩)]) ∧ Box w' w.heap.size (.slice a n cap) ∧ Fr0 none' w w' := by
 go_enter Tryz.func79, Tryz.ntmps79
 go_wp2_with fail
 go_ret
 exact ⟨rfl, Box.new _ _ _, (Fr0.refl _ _).alloc _⟩
/-- A block that a list is read from lies in the world. -/
theorem rdL_lt {w : World} {cb : Nat} {a : Option Addr} {L : List Lv} (hc : cb < w.heap.size) (ha : ∀ g o, a = some ⟨g, o, none⟩ → g < w.heap.size) (hL : ∀ x ∈ L, ∀ g o, x.a = some ⟨g, o, none⟩ → g < w.heap.size) : ∀ k, rdL cb a L k → k < w.heap.size := fun k h => by
 rcases h with rfl | ⟨o, e⟩ | ⟨x, hx, o, e⟩
 ·exact hc
 ·exact ha k o e
 ·exact hL x hx k o e
set_option maxRecDepth 100000 in
theorem CollectM {w : World} {cb : Nat} {a : Option Addr} {n cap : Nat} (L : List Lv) (hb : Box w cb (.slice a n cap)) (h : LvsIn w a L) (he : LvEv w L) (hl : L.length = n) (hn : n ≤ 1000) (ha : ∀ g o, a = some ⟨g, o, none⟩ → g < w.heap.size) (hL : ∀ x ∈ L, ∀ g o, x.a = some ⟨g, o, none⟩ → g < w.heap.size) (ht : totM (L.map Lv.evs) ≤ 1000000) :
  Calls Tryz.prog 51 #[.func (.func 101) #[] #[.pointer (some ⟨cb, 0, none⟩)]] w fun e w' => ∃ v, e = .returned v ∧ w'.ownsRow w.heap.size 30 5 v (mrgE (totM (L.map Lv.evs)) (L.map Lv.evs)).length (flatEv (mrgE (totM (L.map Lv.evs)) (L.map Lv.evs))) ∧ Fr0 none' w w' := by
 by_cases h0 : n = 0
 ·subst h0
  have hL0 := List.eq_nil_of_length_eq_zero hl
  subst hL0
  exact CollectE 101 _ [] none' (rdL cb a []) w (fun _ _ => rfl) (all_iter0 hb) (fun k h => h.elim) (rdL_lt hb.lt ha hL) (Nat.zero_le _)
 ·exact CollectE 101 _ _ none' (rdL cb a L) w (fun _ _ => rfl) (all_iter L hb h he hl hn (by omega)) (fun k h => h.elim) (rdL_lt hb.lt ha hL) (by rw [mrg_length rfl]; exact ht)
end Go.Proofs.YtieeloealklkgaaGreat

/-
  merge.Merge.
-/
namespace Go.Proofs.YtieeloealklkgaaGreat
open Go Go.RowKit Go.ChangeMaps
attribute [local go_sem ↓] Go.wp_at_zero Go.wp_at_succ
attribute [local go_sem] Oper.semAt_some wide_fn wide_depth wide_fnR wide_depthR

set_option maxRecDepth 100000 in
set_option maxHeartbeats 4000000 in
theorem Merge_any {w : World} {a : Option Addr} {n cap : Nat} (L : List Lv) (h : LvsIn w a L) (he : LvEv w L) (hl : L.length = n) (hn : n ≤ 1000) (ha : ∀ g o, a = some ⟨g, o, none⟩ → g < w.heap.size) (hL : ∀ x ∈ L, ∀ g o, x.a = some ⟨g, o, none⟩ → g < w.heap.size) (ht : totM (L.map Lv.evs) ≤ 10000)
  (hA : ∀ x ∈ L, AscE x.evs) (hD : (L.map Lv.evs).flatten.Pairwise (fun x y => x.key ≠ y.key)) (hR : ∀ x ∈ L, ∀ y ∈ x.evs, R64K y.key) :
  Calls Tryz.prog 54 #[.slice a n cap] w fun e w' => ∃ v, e = .returned (.tuple #[v, .int .i64 (-1), .int .i64 0]) ∧ w'.ownsRow w.heap.size 30 5 v (mrgE (totM (L.map Lv.evs)) (L.map Lv.evs)).length (flatEv (mrgE (totM (L.map Lv.evs)) (L.map Lv.evs))) ∧ Fr0 none' w w' := by
 obtain ⟨T, hT⟩ : ∃ T, totM (L.map Lv.evs) = T := ⟨_, rfl⟩
 have HC := Lib.hid (fun (W : World) (cb : Nat) (hf : Fr0 none' w W) (hb : Box W cb (.slice a n cap)) => CollectM L hb (h.later hf) (he.later hf) hl hn (fun g o e => Nat.lt_of_lt_of_le (ha g o e) hf.size) (fun x hx g o e => Nat.lt_of_lt_of_le (hL x hx g o e) hf.size) (by omega))
 have H := Lib.hid h
 have HE := Lib.hid he
 have Hl := Lib.hid hl
 have HA := Lib.hid hA
 have HD := Lib.hid hD
 have HR := Lib.hid hR
 have HT := Lib.hid hT
 obtain ⟨xs, hxs⟩ : ∃ xs, mrgE (totM (L.map Lv.evs)) (L.map Lv.evs) = xs := ⟨_, rfl⟩
 rw [hxs] at HC ⊢
 rw [hT] at ht
 have hmm := @run_makeMap Tryz.prog
 clear h he hl ha hL hA hD hR hT hxs
 go_enter Tryz.func54, Tryz.ntmps54
 go_wp2_with fail
 go_loopw [5, 6, 16] (fun _ _ i wr => ∃ k : Nat, k ≤ n ∧ i = .int .i64 k ∧ Hid (Fr0 none' w wr)) (fun _ _ i _ => n - (Go.RowKit.intOf i).toNat)
 case atStart => exact ⟨0, Nat.zero_le _, rfl, Fr0.refl _ _⟩
 case round =>
  obtain ⟨k, hk, rfl, hfr⟩ := hrel
  by_cases hlt : k < n
  ·obtain ⟨x, hx⟩ : ∃ x, L[k]? = some x := ⟨_, List.getElem?_eq_getElem (by rw [Hl.out]; exact hlt)⟩
   have hxm := List.mem_of_getElem? hx
   obtain ⟨g, o, rfl, hxc⟩ := (H.out.later hfr.out) k x hx
   have hxe := (HE.out.later hfr.out) x hxm
   have HS := Sorted_any (w := wr) (cap := x.c) x.evs hxe.1 hxe.2.1 hxe.2.2.1
   rw [decide_eq_true (HA.out x hxm)] at HS
   have HS := Lib.hid HS
   have k1 : (0 : Int) ≤ (k : Int) := by omega
   have k2 : (k : Int) < (n : Int) := by omega
   clear hx hxm hxe
   go_wp2_with fail
   refine HS.out.mono ?_
   rintro e w2 ⟨rfl, hf2⟩
   have FR := Lib.hid (hfr.out.trans hf2)
   clear hf2 hfr
   go_wp2_with fail
   go_roundw
   case rel => exact ⟨k + 1, by omega, by go_num, FR⟩
   case measure => simp [Go.RowKit.intOf]; omega
  ·have HF := Lib.hid hfr.out
   clear hfr
   go_wp2_with fail
   clear hmm
   obtain ⟨B, hB⟩ : ∃ B, wr.heap.size = B := ⟨_, rfl⟩
   obtain ⟨W2, hW2⟩ : ∃ W, wr.alloc (.map #[] 0) = W := ⟨_, rfl⟩
   have M2 := Lib.hid (show MgIs Tryz.prog 28 keyV W2 B 0 (fun _ => none) by rw [← hW2, ← hB]; exact mg_made wr)
   have F2 := Lib.hid (show Fr0 none' w W2 by rw [← hW2]; exact HF.out.alloc _)
   have HB := Lib.hid (show w.heap.size ≤ B by rw [← hB]; exact HF.out.size)
   rw [hW2]
   try rw [hB]
   clear hW2 hB
   go_loopw [8, 9, 11, 12, 13, 29] (fun _ _ _ _ _ i wr => ∃ (k : Nat) (c : Key3 → Option Int), k ≤ n ∧ i = .int .i64 k ∧ Hid (MgIs Tryz.prog 28 keyV wr B ((L.map Lv.evs).take k).flatten.length c) ∧ Hid (∀ nm, (c nm).isSome = true → ∃ e ∈ ((L.map Lv.evs).take k).flatten, e.key = nm) ∧ Hid (Fr0 none' w wr)) (fun _ _ _ _ _ i _ => n - (Go.RowKit.intOf i).toNat)
   case atStart => exact ⟨0, _, Nat.zero_le _, rfl, M2, (fun nm h => by cases h), F2⟩
   case round =>
    obtain ⟨k, c, hk, rfl, hmg, hcs, hfr⟩ := hrel
    by_cases hlt : k < n
    ·obtain ⟨x, hx⟩ : ∃ x, L[k]? = some x := ⟨_, List.getElem?_eq_getElem (by rw [Hl.out]; exact hlt)⟩
     have hxm := List.mem_of_getElem? hx
     obtain ⟨g, o, rfl, hxc⟩ := (H.out.later hfr.out) k x hx
     have Hxe := Lib.hid (HE.out x hxm)
     have Hxr := Lib.hid (HR.out x hxm)
     have Hx := Lib.hid hx
     have k1 : (0 : Int) ≤ (k : Int) := by omega
     have k2 : (k : Int) < (n : Int) := by omega
     have htk : ((L.map Lv.evs).take (k + 1)).flatten = ((L.map Lv.evs).take k).flatten ++ x.evs := by
      rw [List.take_add_one, List.getElem?_map, hx]
      simp
     have hdp : ((L.map Lv.evs).take k).flatten ++ x.evs ++ ((L.map Lv.evs).drop (k + 1)).flatten = (L.map Lv.evs).flatten := by
      rw [← htk, ← List.flatten_append, List.take_append_drop]
     obtain ⟨D, hDd⟩ : ∃ D, ((L.map Lv.evs).take k).flatten = D := ⟨_, rfl⟩
     rw [hDd] at htk hdp hmg hcs
     have HDp := Lib.hid (show (D ++ x.evs ++ ((L.map Lv.evs).drop (k + 1)).flatten).Pairwise (fun x y => x.key ≠ y.key) by rw [hdp]; exact HD.out)
     have hlen : D.length + x.evs.length ≤ 10000 := by
      have h1 := congrArg List.length hdp
      rw [List.length_append, List.length_append] at h1
      have h2 := totE_flat (L.map Lv.evs)
      rw [HT.out] at h2
      omega
     have Htk := Lib.hid htk
     obtain ⟨xa, xn, xc, xe⟩ := x
     simp only at hxc Hxe Hxr HDp hlen Htk
     have hxn : xe.length = xn := Hxe.out.2.1
     rw [hxn] at hlen
     have Hxn := Lib.hid hxn
     clear hx hxm htk hdp hDd hxn
     go_wp2_with fail
     go_loopw [11, 12, 13, 36] (fun _ _ _ jv wr => ∃ (j : Nat) (c : Key3 → Option Int), j ≤ xn ∧ jv = .int .i64 j ∧ Hid (MgIs Tryz.prog 28 keyV wr B (D.length + j) c) ∧ Hid (∀ nm, (c nm).isSome = true → ∃ e ∈ D ++ xe.take j, e.key = nm) ∧ Hid (Fr0 none' w wr)) (fun _ _ _ jv _ => xn - (Go.RowKit.intOf jv).toNat)
     case atStart => exact ⟨0, c, Nat.zero_le _, rfl, hmg, (fun nm h => by rw [List.take_zero, List.append_nil]; exact hcs.out nm h), hfr⟩
     case round =>
      obtain ⟨j, c2, hj, rfl, hmj, hcj, hfj⟩ := hrel
      by_cases hlj : j < xn
      ·obtain ⟨y, hy⟩ : ∃ y, xe[j]? = some y := ⟨_, List.getElem?_eq_getElem (by rw [Hxn.out]; exact hlj)⟩
       have hfresh : ∀ e ∈ D ++ xe.take j, e.key ≠ y.key := by
        have h1 := HDp.out
        have h2 : xe = xe.take j ++ y :: xe.drop (j + 1) := (split_at hy y).1
        rw [h2, List.append_assoc, List.append_assoc, List.cons_append, ← List.append_assoc] at h1
        exact fun e he => (List.pairwise_append.1 h1).2.2 e he y List.mem_cons_self
       have hcn : c2 y.key = none := by
        cases hc : c2 y.key with
        | none => rfl
        | some v =>
         obtain ⟨e, he, hek⟩ := hcj.out y.key (by rw [hc]; rfl)
         exact absurd hek (hfresh e he)
       obtain ⟨kl, hkl⟩ := key_key_is (Hxr.out y (List.mem_of_getElem? hy))
       obtain ⟨g5, o5, rfl, y0, y1, y2, y3, y4⟩ := (Hxe.out.1.later hfj.out) j y hy
       have hty : xe.take (j + 1) = xe.take j ++ [y] := by rw [List.take_add_one, hy]; rfl
       have Hty := Lib.hid hty
       obtain ⟨yb, hyb⟩ : ∃ b, wr.heap.size = b := ⟨_, rfl⟩
       obtain ⟨W3, hW3⟩ : ∃ V, wr.alloc (.cells #[.int .i64 y.key.time, .int .i64 y.key.source, .int .i64 y.key.seq, .int .i64 y.to, .int .i64 y.value] 30) = V := ⟨_, rfl⟩
       have f3 : Fr0 none' wr W3 := by rw [← hW3]; exact (Fr0.refl _ _).alloc _
       have b3 : W3.heap[yb]? = some (.cells #[.int .i64 y.key.time, .int .i64 y.key.source, .int .i64 y.key.seq, .int .i64 y.to, .int .i64 y.value] 30 (0, 0)) := by rw [← hW3, ← hyb]; exact World.alloc_heap_new _ _
       have c0 := cells_in b3 0
       have c1 := cells_in b3 1
       have c2' := cells_in b3 2
       have c3 := cells_in b3 3
       have c4 := cells_in b3 4
       simp at c0 c1 c2' c3 c4
       have hm3 := hmj.out.later f3
       have hlk := (hm3.look key_law Tryz.underlying117 (Tryz.zeroValue3 W3) hkl).1
       obtain ⟨W4, hup, hm4, hf4⟩ := hm3.put keyV_inj key_law Tryz.underlying117 (by unfold maxLen; omega) hkl (k : Int)
       rw [hcn, show keyV y.key = .agg #[.int .i64 y.key.time, .int .i64 y.key.source, .int .i64 y.key.seq] from rfl] at hlk
       rw [show keyV y.key = .agg #[.int .i64 y.key.time, .int .i64 y.key.source, .int .i64 y.key.seq] from rfl] at hup
       simp only [Option.getD_none, Option.isSome_none] at hlk
       have HM4 := Lib.hid hm4
       have F4 := Lib.hid (show Fr0 none' w W4 from (hfj.out.trans f3).trans' hf4 (fun i hi e => by have e : i = B := e; have := HB.out; omega))
       have HCJ := Lib.hid (show ∀ nm, ((if nm = y.key then some (k : Int) else c2 nm) : Option Int).isSome = true → ∃ e ∈ D ++ xe.take (j + 1), e.key = nm from fun nm h => by
        rw [Hty.out]
        by_cases e : nm = y.key
        ·exact ⟨y, by simp, e.symm⟩
        ·rw [if_neg e] at h
         obtain ⟨e', he', hek⟩ := hcj.out nm h
         exact ⟨e', by rw [← List.append_assoc]; exact List.mem_append_left _ he', hek⟩)
       have j1 : (0 : Int) ≤ (j : Int) := by omega
       have j2 : (j : Int) < (xn : Int) := by omega
       clear hy hfresh hcn hkl hty f3 b3 hm3 hm4 hf4 hmj hcj hfj hmg hcs hfr
       go_wp2_with fail
       go_roundw
       case rel => exact ⟨j + 1, _, by omega, by go_num, by rw [← Nat.add_assoc]; exact HM4, HCJ, F4⟩
       case measure => simp [Go.RowKit.intOf]; omega
      ·have hjx : j = xn := by omega
       subst hjx
       have hfin := Lib.hid (show MgIs Tryz.prog 28 keyV wr B ((L.map Lv.evs).take (k + 1)).flatten.length c2 by rw [Htk.out, List.length_append, Hxn.out]; exact hmj.out)
       have hfc := Lib.hid (show ∀ nm, (c2 nm).isSome = true → ∃ e ∈ ((L.map Lv.evs).take (k + 1)).flatten, e.key = nm from fun nm h => by rw [Htk.out]; have := hcj.out nm h; rwa [List.take_of_length_le (by rw [Hxn.out]; exact Nat.le_refl _)] at this)
       clear hmg hcs hmj hcj hfr
       go_wp2_with fail
       go_roundw
       case rel => exact ⟨k + 1, c2, by omega, by go_num, hfin, hfc, hfj⟩
       case measure => simp [Go.RowKit.intOf]; omega
    ·have F5 := Lib.hid hfr.out
     clear hmg hcs hfr
     go_wp2_with fail
     refine all_any.mono ?_
     rintro e w6 ⟨rfl, hb6, hf6⟩
     have HC6 := Lib.hid (HC.out w6 _ (F5.out.trans hf6) hb6)
     have F6 := Lib.hid (F5.out.trans hf6)
     clear hb6 hf6
     go_wp2_with fail
     refine HC6.out.mono ?_
     rintro e w7 ⟨v, rfl, hrow, hf7⟩
     have F7 := Lib.hid (F6.out.trans hf7)
     have HROW := Lib.hid (own_upE hrow F6.out.size)
     clear hrow hf7
     go_wp2_with fail
     go_ret3
     exact ⟨_, rfl, HROW.out, F7.out⟩
end Go.Proofs.YtieeloealklkgaaGreat

/-
  The runs of a list, in plain words; merge.Sort.
-/
namespace Go.Proofs.YtieeloealklkgaaGreat
open Go Go.RowKit Go.ChangeMaps
attribute [local go_sem ↓] Go.wp_at_zero Go.wp_at_succ
attribute [local go_sem] Oper.semAt_some wide_fn wide_depth wide_fnR wide_depthR

/-- A piece of a list. -/
def slE (l : List Ev) (p : Nat × Nat) : List Ev := (l.take p.2).drop p.1
def adjI (l : List Ev) (f i : Nat) : Prop := ∀ j a b, f ≤ j → j + 1 < i → l[j]? = some a → l[j + 1]? = some b → cmpK a.key b.key < 0
theorem adjI.asc {l : List Ev} {f i : Nat} (h : adjI l f i) : AscE (slE l (f, i)) := by
 rw [asc_adj]
 intro j a b ha hb
 unfold slE at ha hb
 simp only [List.getElem?_drop] at ha hb
 have hlt : f + (j + 1) < i := by
  have h1 := (List.getElem?_eq_some_iff.1 hb).1
  rw [List.length_take] at h1
  omega
 rw [List.getElem?_take_of_lt (by omega)] at ha hb
 exact h (f + j) a b (by omega) (by omega) ha (by rw [Nat.add_assoc]; exact hb)
theorem slE_snoc {l : List Ev} {f i : Nat} {x : Ev} (hx : l[i]? = some x) (hf : f ≤ i) : slE l (f, i + 1) = slE l (f, i) ++ [x] := by
 unfold slE
 simp only
 rw [List.take_add_one, hx]
 have hi := (List.getElem?_eq_some_iff.1 hx).1
 rw [List.drop_append_of_le_length (by rw [List.length_take]; omega)]
 rfl
theorem runS_lt (l : List Ev) : ∀ i, 0 < i → (runS l i).2 < i
 | 0, h => by omega
 | i + 1, _ => by
  have h1 := (runS_le l i).2
  rw [runS]
  split
  ·split
   ·simp only; omega
   ·omega
  ·omega
theorem runS_inv (l : List Ev) : ∀ i, i ≤ l.length → ((runS l i).1.flatMap (slE l) ++ slE l ((runS l i).2, i) = l.take i) ∧ (∀ p ∈ (runS l i).1, p.1 < p.2 ∧ p.2 ≤ i ∧ adjI l p.1 p.2) ∧ adjI l (runS l i).2 i ∧ (0 < i → (runS l i).2 < i)
 | 0, _ => ⟨by simp [runS, slE], fun p hp => by simp [runS] at hp, fun j a b _ h => by omega, fun h => by omega⟩
 | i + 1, hi => by
  obtain ⟨h1, h2, h3, h4⟩ := runS_inv l i (by omega)
  have hi1 : l[i]? = some l[i] := List.getElem?_eq_getElem (by omega)
  have hi0 : l[i - 1]? = some l[i - 1] := List.getElem?_eq_getElem (by omega)
  have htk : l.take (i + 1) = l.take i ++ [l[i]] := by rw [List.take_add_one, hi1]; rfl
  have hfi : (runS l i).2 ≤ i := (runS_le l i).2
  rw [runS, hi0, hi1]
  simp only
  by_cases h : 0 < i ∧ ¬ cmpK l[i - 1].key l[i].key < 0
  ·rw [if_pos h]
   refine ⟨?_, fun p hp => ?_, fun j a b hj hj2 => by simp only at hj; omega, fun _ => by simp only; omega⟩
   ·simp only
    rw [List.flatMap_append, List.flatMap_singleton, h1, htk]
    congr 1
    rw [slE_snoc hi1 (Nat.le_refl i)]
    have : slE l (i, i) = [] := by
     unfold slE
     exact List.drop_of_length_le (by rw [List.length_take]; exact Nat.min_le_left _ _)
    rw [this]
    rfl
   ·simp only at hp
    rcases List.mem_append.1 hp with hp | hp
    ·obtain ⟨g1, g2, g3⟩ := h2 p hp
     exact ⟨g1, by omega, g3⟩
    ·rw [List.mem_singleton.1 hp]
     exact ⟨h4 h.1, by simp only; omega, h3⟩
  ·rw [if_neg h]
   refine ⟨?_, fun p hp => ?_, fun j a b hj hj2 ha hb => ?_, fun _ => by omega⟩
   ·rw [slE_snoc hi1 hfi, ← List.append_assoc, h1, htk]
   ·obtain ⟨g1, g2, g3⟩ := h2 p hp
    exact ⟨g1, by omega, g3⟩
   ·by_cases hji : j + 1 < i
    ·exact h3 j a b hj hji ha hb
    ·have hj2 : j = i - 1 := by omega
     subst hj2
     rw [hi0] at ha
     rw [show i - 1 + 1 = i by omega, hi1] at hb
     injection ha with ha
     injection hb with hb
     subst ha hb
     exact Classical.not_not.1 (fun hn => h ⟨by omega, hn⟩)
theorem runsN (l : List Ev) : ∀ i, (runS l i).1.length ≤ (runS l i).2
 | 0 => Nat.le_refl _
 | i + 1 => by
  have h := runsN l i
  have h1 := (runS_le l i).2
  have h2 : (runS l i).1.length ≤ i - 1 ∨ i = 0 ∨ (runS l i).2 = i := by
   by_cases e : i = 0
   ·exact .inr (.inl e)
   ·by_cases e2 : (runS l i).2 = i
    ·exact .inr (.inr e2)
    ·left; omega
  rw [runS]
  split
  ·split
   ·next hc =>
    simp only [List.length_append, List.length_singleton]
    rcases Nat.lt_or_ge (runS l i).2 i with h3 | h3
    ·omega
    ·exact absurd (runS_lt l i hc.1) (by omega)
   ·exact h
  ·exact h
/-- The runs of a list are the list, and each is in order. -/
theorem runsE_flat (l : List Ev) : (runsE l).flatMap (slE l) = l ∧ ∀ p ∈ runsE l, p.1 < p.2 ∧ p.2 ≤ l.length ∧ AscE (slE l p) := by
 obtain ⟨h1, h2, h3, h4⟩ := runS_inv l l.length (Nat.le_refl _)
 unfold runsE
 by_cases h : 0 < l.length
 ·rw [if_pos h]
  refine ⟨?_, fun p hp => ?_⟩
  ·rw [List.flatMap_append, List.flatMap_singleton, h1, List.take_length]
  ·rcases List.mem_append.1 hp with hp | hp
   ·obtain ⟨g1, g2, g3⟩ := h2 p hp
    exact ⟨g1, g2, g3.asc⟩
   ·rw [List.mem_singleton.1 hp]
    exact ⟨h4 h, Nat.le_refl _, h3.asc⟩
 ·rw [if_neg h]
  have : l = [] := List.eq_nil_of_length_eq_zero (by omega)
  subst this
  exact ⟨rfl, fun p hp => by simp at hp⟩
/-- A piece of a slice. -/
def pieceA (cap lo : Nat) (a : Option Addr) : Option Addr := if cap = lo then a else a.map (fun x => x.add (lo * 5))
def runLv (a : Option Addr) (cap : Nat) (l : List Ev) (p : Nat × Nat) : Lv := ⟨pieceA cap p.1 a, p.2 - p.1, cap - p.1, slE l p⟩
theorem runLv_evs (a : Option Addr) (cap : Nat) (l : List Ev) (ps : List (Nat × Nat)) : (ps.map (runLv a cap l)).map Lv.evs = ps.map (slE l) := by
 rw [List.map_map]; rfl
theorem runLv_ok {w : World} {a : Option Addr} {n cap : Nat} {l : List Ev} (h : EsIn w a l) (hl : l.length = n) (hc : n ≤ cap) (hn : n ≤ 10000) {p : Nat × Nat} (hp : p.1 < p.2 ∧ p.2 ≤ l.length) : EsIn w (runLv a cap l p).a (runLv a cap l p).evs ∧ (runLv a cap l p).evs.length = (runLv a cap l p).n ∧ (runLv a cap l p).n ≤ 10000 ∧ (runLv a cap l p).n ≤ (runLv a cap l p).c := by
 obtain ⟨lo, hi⟩ := p
 simp only at hp
 unfold runLv slE pieceA
 simp only
 refine ⟨?_, by rw [List.length_drop, List.length_take]; omega, by omega, by omega⟩
 rw [if_neg (by omega)]
 intro i x hx
 rw [List.getElem?_drop] at hx
 have hlt : lo + i < hi := by
  have h1 := (List.getElem?_eq_some_iff.1 hx).1
  rw [List.length_take] at h1
  omega
 rw [List.getElem?_take_of_lt hlt] at hx
 obtain ⟨g, o, e, hat⟩ := h (lo + i) x hx
 subst e
 refine ⟨g, o + lo * 5, ?_, ?_⟩
 ·rw [Option.map_some, Addr.add_lit]
 ·rw [show o + lo * 5 + i * 5 = o + (lo + i) * 5 by omega]
  exact hat
end Go.Proofs.YtieeloealklkgaaGreat

/-
  merge.Sort.
-/
namespace Go.Proofs.YtieeloealklkgaaGreat
open Go Go.RowKit Go.ChangeMaps
attribute [local go_sem ↓] Go.wp_at_zero Go.wp_at_succ
attribute [local go_sem] Oper.semAt_some wide_fn wide_depth wide_fnR wide_depthR

theorem LvsIn.of_own {w : World} {base : Nat} {v : Value} {n : Nat} {L : List Lv} (h : w.ownsRow base 22 1 v n (L.map Lv.v)) : ∃ a cap, v = .slice a n cap ∧ L.length = n ∧ LvsIn w a L ∧ ∀ g o, a = some ⟨g, o, none⟩ → g < w.heap.size := by
 have hl : L.length = n := by have := h.1; rw [List.length_map] at this; omega
 rcases h.2 with ⟨rfl, h0⟩ | ⟨g, cap, cur, rfl, hb, hg, hn', hcm, hs, ht⟩
 ·have : L = [] := List.eq_nil_of_length_eq_zero (by omega)
  subst this
  exact ⟨none, 0, by rw [h0], hl, fun i x h => by simp at h, fun g o e => by cases e⟩
 ·refine ⟨_, cap, rfl, hl, (RowL.of_own h).lvs, fun g' o e => ?_⟩
  injection e with e
  injection e with e1
  rw [← e1]
  exact (Array.getElem?_eq_some_iff.1 hg).1
theorem flatPr_at {L : List (Nat × Nat)} {k : Nat} {p : Nat × Nat} (h : L[k]? = some p) : (flatPr L)[k * 2]? = some (.int .i64 (p.1 : Nat)) ∧ (flatPr L)[k * 2 + 1]? = some (.int .i64 (p.2 : Nat)) := by
 have h0 := flat_at (show ∀ p, (pairC p).length = 2 from fun _ => rfl) L k 0 (by omega)
 have h1 := flat_at (show ∀ p, (pairC p).length = 2 from fun _ => rfl) L k 1 (by omega)
 rw [h] at h0 h1
 exact ⟨h0, h1⟩
theorem row_pairs {w : World} {base n : Nat} {v : Value} {L : List (Nat × Nat)} (h : w.ownsRow base 120 2 v n (flatPr L)) : ∃ a cap, v = .slice a n cap ∧ ∀ k p, L[k]? = some p → ∃ g, a = some ⟨g, 0, none⟩ ∧ w.cell? ⟨g, k * 2, none⟩ = some (.int .i64 (p.1 : Nat)) ∧ w.cell? ⟨g, k * 2 + 1, none⟩ = some (.int .i64 (p.2 : Nat)) := by
 rcases h.2 with ⟨rfl, h0⟩ | ⟨g, cap, cur, rfl, hb, hg, hn', hcm, hs, ht⟩
 ·refine ⟨none, 0, by rw [h0], fun k p hk => ?_⟩
  have h1 := (flatPr_at hk).1
  have h2 := h.1
  have h3 := (List.getElem?_eq_some_iff.1 h1).1
  omega
 ·refine ⟨_, cap, rfl, fun k p hk => ⟨g, rfl, ?_, ?_⟩⟩
  ·have h1 := (flatPr_at hk).1
   rw [← ht] at h1
   have h3 := (List.getElem?_eq_some_iff.1 h1).1
   rw [List.length_take] at h3
   rw [List.getElem?_take_of_lt (by omega), Array.getElem?_toList] at h1
   rw [cells_in hg, h1]
  ·have h1 := (flatPr_at hk).2
   rw [← ht] at h1
   have h3 := (List.getElem?_eq_some_iff.1 h1).1
   rw [List.length_take] at h3
   rw [List.getElem?_take_of_lt (by omega), Array.getElem?_toList] at h1
   rw [cells_in hg, h1]
set_option maxRecDepth 100000 in
set_option maxHeartbeats 4000000 in
theorem MSort_any {w : World} {a : Option Addr} {n cap : Nat} (L : List Ev) (h : EsIn w a L) (hl : L.length = n) (hc : n ≤ cap) (hn : n ≤ 1000) (hab : ∀ ad, a = some ad → ad.block < w.heap.size) (hD : L.Pairwise (fun x y => x.key ≠ y.key)) (hR : ∀ y ∈ L, R64K y.key) :
  Calls Tryz.prog 22 #[.slice a n cap] w fun e w' => ∃ v S, e = .returned (.tuple #[v, .int .i64 0]) ∧ S.Perm L ∧ AscE S ∧ w'.ownsRow w.heap.size 30 5 v n (flatEv S) ∧ Fr0 none' w w' := by
 obtain ⟨i0, hi, hz0, hz1, hz2⟩ := info_parts info_evs0
 have H := Lib.hid h
 have Hl := Lib.hid hl
 have HD := Lib.hid hD
 have HR := Lib.hid hR
 have Hab := Lib.hid hab
 have HRu := Lib.hid (Runs_any (cap := cap) L h hl (by omega))
 have hrl : (runsE L).length ≤ n := by
  unfold runsE
  split
  ·have h1 := (runS_inv L L.length (Nat.le_refl _)).2.2.2 (by assumption)
   have h2 := runsN L L.length
   rw [List.length_append, List.length_singleton]
   omega
  ·exact Nat.zero_le _
 obtain ⟨m, hm⟩ : ∃ m, (runsE L).length = m := ⟨_, rfl⟩
 rw [hm] at HRu hrl
 have Hm := Lib.hid hm
 clear h hl hD hR hab hm
 go_enter Tryz.func22, Tryz.ntmps22
 go_wp2_with fail
 refine HRu.out.mono ?_
 rintro e w1 ⟨v, rfl, hrow, hf1⟩
 obtain ⟨ra, rc, rfl, hpr⟩ := row_pairs hrow
 have F1 := Lib.hid hf1
 have HP := Lib.hid hpr
 obtain ⟨N, hN⟩ : ∃ N, w1.heap.size = N := ⟨_, rfl⟩
 have HN := Lib.hid hN
 clear hrow hf1 hpr hN HRu
 go_wp2_with fail
 go_loopw [4, 6, 13] (fun u _ i wr => ∃ k : Nat, k ≤ m ∧ i = .int .i64 k ∧ Hid (wr.ownsRow N 22 1 u k ((((runsE L).take k).map (runLv a cap L)).map Lv.v)) ∧ Hid (Fr0 none' w1 wr)) (fun _ _ i _ => m - (Go.RowKit.intOf i).toNat)
 case atStart => exact ⟨0, Nat.zero_le _, rfl, World.ownsRow_nil _ _ _ _, Fr0.refl _ _⟩
 case round =>
  obtain ⟨k, hk, rfl, hown, hfr⟩ := hrel
  by_cases hlt : k < m
  ·obtain ⟨p, hp⟩ : ∃ p, (runsE L)[k]? = some p := ⟨_, List.getElem?_eq_getElem (by rw [Hm.out]; exact hlt)⟩
   obtain ⟨hp1, hp2, _⟩ := (runsE_flat L).2 p (List.mem_of_getElem? hp)
   obtain ⟨gr, rfl, r0, r1⟩ := HP.out k p hp
   have c0 := hfr.out.later r0
   have c1 := hfr.out.later r1
   have htk : ((((runsE L).take (k + 1)).map (runLv a cap L)).map Lv.v) = ((((runsE L).take k).map (runLv a cap L)).map Lv.v) ++ [(runLv a cap L p).v] := by
    rw [List.take_add_one, hp]
    simp
   rw [Hl.out] at hp2
   obtain ⟨lo, hi'⟩ := p
   simp only at hp1 hp2 c0 c1
   obtain ⟨y, hy⟩ : ∃ y, L[lo]? = some y := ⟨_, List.getElem?_eq_getElem (by rw [Hl.out]; omega)⟩
   obtain ⟨g, o, rfl, _⟩ := H.out lo y hy
   have hrv : (runLv (some ⟨g, o, none⟩) cap L (lo, hi')).v = .slice (some ⟨g, o + lo * 5, none⟩) (hi' - lo) (cap - lo) := by
    unfold runLv pieceA Lv.v
    simp only
    rw [if_neg (by omega), Option.map_some, Addr.add_lit]
   rw [hrv] at htk
   have Htk := Lib.hid htk
   obtain ⟨va, vc, rfl⟩ : ∃ va vc, u4 = .slice va k vc := by
    rcases hown.out.2 with ⟨rfl, h0⟩ | ⟨g, cap, cur, rfl, _⟩
    ·exact ⟨none, 0, by rw [h0]⟩
    ·exact ⟨_, cap, rfl⟩
   have k1 : (0 : Int) ≤ (k : Int) := by omega
   have k2 : (k : Int) < (m : Int) := by omega
   have k3 : (0 : Int) ≤ (lo : Int) := by omega
   have k4 : (lo : Int) ≤ (hi' : Int) := by omega
   have k5 : (hi' : Int) ≤ (cap : Int) := by omega
   have k6 : (cap = lo) = False := eq_false (by omega)
   obtain ⟨xb, hxb⟩ : ∃ b, wr.heap.size = b := ⟨_, rfl⟩
   obtain ⟨W2, hW2⟩ : ∃ W, wr.alloc (.cells #[.int .i64 (lo : Nat), .int .i64 (hi' : Nat)] 120) = W := ⟨_, rfl⟩
   have hf2 : Fr0 none' wr W2 := by rw [← hW2]; exact (Fr0.refl _ _).alloc _
   have hb : W2.heap[xb]? = some (.cells #[.int .i64 (lo : Nat), .int .i64 (hi' : Nat)] 120 (0, 0)) := by rw [← hW2, ← hxb]; exact World.alloc_heap_new _ _
   have z0 := cells_in hb 0
   have z1 := cells_in hb 1
   simp at z0 z1
   have hsrc := Src.newRow (P := Tryz.prog) (size := 1) (tx := 34) (ty := 22) W2 Tryz.underlying34 1 1 [.slice (some ⟨g, o + lo * 5, none⟩) (hi' - lo) (cap - lo)] rfl (by simp [Value.oneCell'])
   have Hsrc := Lib.hid hsrc
   have HO2 := Lib.hid ((ownsRow_fr0 hown.out hf2 (fun _ _ h => h)).alloc (.cells [Value.slice (some ⟨g, o + lo * 5, none⟩) (hi' - lo) (cap - lo)].toArray 22))
   have F2 := Lib.hid (hfr.out.trans hf2)
   have FA := Lib.hid ((hfr.out.trans hf2).alloc (.cells [Value.slice (some ⟨g, o + lo * 5, none⟩) (hi' - lo) (cap - lo)].toArray 22))
   have hNW : N ≤ W2.heap.size := by rw [← HN.out]; exact F2.out.size
   clear hp r0 r1 htk hy hrv hsrc hf2 hb hown hfr
   go_wp2_with (at_builtin; refine wpList_append_k rfl _ _ 34 34 rfl N 22 i0 (.slice none 0 0) 1 24 Tryz.underlying34 hi hz0 hz1 hz2 rfl (by decide) _ k _ rfl HO2.out (.slice (some ⟨W2.heap.size, 0, none⟩) 1 1) 1 _ rfl Hsrc.out (by unfold maxLen; omega) (by omega) (by simp; omega) ?_; intro v' w4 hown' hgrow hdr hob)
   have hfin := FA.out.grown hgrow (fun i hi hl => by
    have h1 := (HO2.out.lt i hi).1
    rw [HN.out] at hl; omega)
   refine ⟨⟨k + 1, by omega, by go_num, Lib.hid (by rw [Htk.out]; exact hown'), Lib.hid hfin⟩, ?_⟩
   simp [Go.RowKit.intOf]; omega
  ·have hkm : k = m := by omega
   have htm : (runsE L).take k = runsE L := List.take_of_length_le (by rw [Hm.out]; omega)
   rw [htm, hkm] at hown
   obtain ⟨la, lc, rfl, hLl, hLi, hLb⟩ := LvsIn.of_own hown.out
   have hfw : Fr0 none' w wr := F1.out.trans hfr.out
   obtain ⟨hfl, hrp⟩ := runsE_flat L
   obtain ⟨Ls, hLs⟩ : ∃ Ls, (runsE L).map (runLv a cap L) = Ls := ⟨_, rfl⟩
   have hev : Ls.map Lv.evs = (runsE L).map (slE L) := by rw [← hLs]; exact runLv_evs a cap L _
   have hflat : (Ls.map Lv.evs).flatten = L := by rw [hev, ← List.flatMap_def]; exact hfl
   have hmem : ∀ x ∈ Ls, ∃ p ∈ runsE L, x = runLv a cap L p := fun x hx => by
    rw [← hLs] at hx
    obtain ⟨p, hp, rfl⟩ := List.mem_map.1 hx
    exact ⟨p, hp, rfl⟩
   rw [hLs] at hLl hLi
   have htot : totM (Ls.map Lv.evs) = n := by rw [← totE_flat, hflat, Hl.out]
   have hLE : LvEv wr Ls := fun x hx => by
    obtain ⟨p, hp, rfl⟩ := hmem x hx
    exact runLv_ok (H.out.later hfw) Hl.out hc (by omega) ⟨(hrp p hp).1, (hrp p hp).2.1⟩
   have hLA : ∀ x ∈ Ls, AscE x.evs := fun x hx => by
    obtain ⟨p, hp, rfl⟩ := hmem x hx
    exact (hrp p hp).2.2
   have hLD : (Ls.map Lv.evs).flatten.Pairwise (fun x y => x.key ≠ y.key) := by rw [hflat]; exact HD.out
   have hLR : ∀ x ∈ Ls, ∀ y ∈ x.evs, R64K y.key := fun x hx y hy => HR.out y (by rw [← hflat]; exact List.mem_flatten.2 ⟨x.evs, List.mem_map.2 ⟨x, hx, rfl⟩, hy⟩)
   have hLB : ∀ x ∈ Ls, ∀ g o, x.a = some ⟨g, o, none⟩ → g < wr.heap.size := fun x hx g o e => by
    obtain ⟨p, hp, rfl⟩ := hmem x hx
    have e : pieceA cap p.1 a = some ⟨g, o, none⟩ := e
    unfold pieceA at e
    refine Nat.lt_of_lt_of_le ?_ hfw.size
    split at e
    ·exact Hab.out _ e
    ·obtain ⟨y, hy⟩ : ∃ y, L[p.1]? = some y := ⟨_, List.getElem?_eq_getElem (by have := (hrp p hp).1; have := (hrp p hp).2.1; omega)⟩
     obtain ⟨g2, o2, ea, _⟩ := H.out p.1 y hy
     rw [ea, Option.map_some, Addr.add_lit] at e
     injection e with e
     injection e with e1
     rw [← e1]
     exact Hab.out _ ea
   have HMg := Lib.hid (Merge_any (cap := lc) Ls hLi hLE hLl (by omega) hLb hLB (by omega) hLA hLD hLR)
   have hSP := Lib.hid ((mrg_perm (totM (Ls.map Lv.evs)) _ rfl).trans (by rw [hflat]))
   have hSA := Lib.hid (mrg_asc (totM (Ls.map Lv.evs)) _ rfl (fun l hl => by obtain ⟨x, hx, rfl⟩ := List.mem_map.1 hl; exact hLA x hx) hLD)
   have hSL := Lib.hid ((mrg_length (f := totM (Ls.map Lv.evs)) rfl).trans htot)
   obtain ⟨S, hS⟩ : ∃ S, mrgE (totM (Ls.map Lv.evs)) (Ls.map Lv.evs) = S := ⟨_, rfl⟩
   rw [hS] at HMg hSP hSA hSL
   have Fw := Lib.hid hfw
   clear hown hfr hkm htm hLl hLi hLb hfw hfl hrp hLs hev hflat hmem htot hLE hLA hLD hLR hLB hS
   go_wp2_with fail
   refine HMg.out.mono ?_
   rintro e w5 ⟨v5, rfl, hrow5, hf5⟩
   rw [hSL.out] at hrow5
   have HR5 := Lib.hid (own_upE hrow5 Fw.out.size)
   have F5 := Lib.hid (Fw.out.trans hf5)
   clear hrow5 hf5 HMg
   go_wp2_with fail
   go_ret2
   exact ⟨v5, S, rfl, hSP.out, hSA.out, HR5.out, F5.out⟩
end Go.Proofs.YtieeloealklkgaaGreat

/-
  A slice of events among the arguments; the row's post (no text of the queue).
-/
namespace Go.Proofs.YtieeloealklkgaaGreat
open Go.ChangeShapes Go.WideShapes Go.ChangeAt Go.RowKit Go.Deep Go.Joins

theorem post_belowC {H : Type} {enc : TypeId × Value → H} {P : Program} {f : Func} {s : ChangeSpec} {apart fresh handsOn : Bool} {W W' : World} {args : Array Value} {v : Value} {ds gs : List (DataW H)} {before pa pv : List MemPlace}
  (hW : DataW.Whole enc P f.params.toList s.vars apart W args.toList ds gs before)
  (hres : ∀ (b : Nat) (sp : Nat → Bool) (hd : Bool), DataW.TrodAll enc P W' b sp hd f.resultTypes.toList (v.resultList f.resultTypes.size) (s.fn H (ds ++ gs)).results [])
  (hargs : DataW.TrodAll enc P W' 0 (fun b => decide (b < W.heap.size)) true f.params.toList args.toList (s.fn H (ds ++ gs)).args pa)
  (hvars : ∀ sp : Nat → Bool, (∀ p ∈ before, sp p.block = true) → DataW.TrodVars enc P W' sp s.vars (s.fn H (ds ++ gs)).vars pv)
  (hb : Below W.heap.size W W') :
  s.post enc P f apart fresh handsOn false W args v W' := by
 have hold : ∀ p ∈ before, (fun b => decide (b < W.heap.size)) p.block = true := fun p hp => by simpa using hW.lt p hp
 exact ⟨ds, gs, before, [], pa, pv, hW, hres _ _ _, hargs, hvars _ hold, hb.frame _, fun h => by cases h⟩
theorem laidC : laidOutB Tryz.prog = true := by kernel_rfl
theorem knobC : ownKnob Tryz.prog.godebug = none := by kernel_rfl

theorem listC {α : Type} {P : Nat → α → Prop} : ∀ n, (∀ i, i < n → ∃ x, P i x) → ∃ xs : List α, xs.length = n ∧ ∀ j x, xs[j]? = some x → P j x
 | 0, _ => ⟨[], rfl, fun j x h => by simp at h⟩
 | n + 1, h => by
  obtain ⟨xs, hl, hx⟩ := listC n (fun i hi => h i (by omega))
  obtain ⟨x, hp⟩ := h n (by omega)
  refine ⟨xs ++ [x], by simp [hl], fun j y hj => ?_⟩
  rcases Nat.lt_or_ge j xs.length with hjl | hjl
  ·rw [List.getElem?_append_left hjl] at hj; exact hx j y hj
  ·rw [List.getElem?_append_right hjl] at hj
   have : j - xs.length = 0 := by
    rcases Nat.eq_zero_or_pos (j - xs.length) with h0 | h0
    ·exact h0
    ·rw [List.getElem?_eq_none (by simp; omega)] at hj; cases hj
   rw [this] at hj
   simp at hj
   subst hj
   rw [show j = n by omega]; exact hp
theorem smallC {H : Type} {enc : TypeId × Value → H} {w : World} {n : Nat} {v : Value} {y : DataW H × List MemPlace} (h : DataW.trod enc Tryz.prog w 0 (fun _ => true) true n 5 [v] = some y) : ∃ a, v = .int .u8 a ∧ 0 ≤ a ∧ a < 256 := by
 obtain ⟨a, h1, _, hw⟩ := DataW.trod_int Tryz.underlying5 h
 injection h1 with h1 _
 have := bounds_u8 hw
 exact ⟨a, h1, this.1, by omega⟩

theorem intC {H : Type} {enc : TypeId × Value → H} {w : World} {n : Nat} {v : Value} {y : DataW H × List MemPlace} (h : DataW.trod enc Tryz.prog w 0 (fun _ => true) true n 3 [v] = some y) : ∃ a, v = .int .i64 a := by
 obtain ⟨a, h1, _, hw⟩ := DataW.trod_int Tryz.underlying3 h
 injection h1 with h1 _
 exact ⟨a, h1⟩
theorem int64C {H : Type} {enc : TypeId × Value → H} {w : World} {n : Nat} {v : Value} {y : DataW H × List MemPlace} (h : DataW.trod enc Tryz.prog w 0 (fun _ => true) true n 2 [v] = some y) : ∃ a, v = .int .i64 a := by
 obtain ⟨a, h1, _, hw⟩ := DataW.trod_int Tryz.underlying2 h
 injection h1 with h1 _
 exact ⟨a, h1⟩
set_option maxRecDepth 100000 in
theorem keyC {H : Type} {enc : TypeId × Value → H} {w : World} {n : Nat} {v0 v1 v2 : Value} {y : DataW H × List MemPlace} (h : DataW.trod enc Tryz.prog w 0 (fun _ => true) true n 28 [v0, v1, v2] = some y) : ∃ k : Key3, v0 = .int .i64 k.time ∧ v1 = .int .i64 k.source ∧ v2 = .int .i64 k.seq := by
 obtain ⟨ys, k, _, _, _, hyl, hfl⟩ := DataW.trod_struct Tryz.underlying28 h
 have hone : Tryz.prog.cellsOf 3 = 1 := by kernel_rfl
 have f0 : DataW.trod enc Tryz.prog w 0 (fun _ => true) true k 3 (([v0, v1, v2].drop 0).take (Tryz.prog.cellsOf 3)) = ys[0]? := hfl 0 _ rfl
 have f1 : DataW.trod enc Tryz.prog w 0 (fun _ => true) true k 3 (([v0, v1, v2].drop 1).take (Tryz.prog.cellsOf 3)) = ys[1]? := hfl 1 _ rfl
 have f2 : DataW.trod enc Tryz.prog w 0 (fun _ => true) true k 3 (([v0, v1, v2].drop 2).take (Tryz.prog.cellsOf 3)) = ys[2]? := hfl 2 _ rfl
 rw [hone] at f0 f1 f2
 have yl : ys.length = 3 := hyl
 have t0 : DataW.trod enc Tryz.prog w 0 (fun _ => true) true k 3 [v0] = some (ys[0]'(by omega)) := f0.trans (List.getElem?_eq_getElem _)
 have t1 : DataW.trod enc Tryz.prog w 0 (fun _ => true) true k 3 [v1] = some (ys[1]'(by omega)) := f1.trans (List.getElem?_eq_getElem _)
 have t2 : DataW.trod enc Tryz.prog w 0 (fun _ => true) true k 3 [v2] = some (ys[2]'(by omega)) := f2.trans (List.getElem?_eq_getElem _)
 obtain ⟨a0, rfl⟩ := intC t0
 obtain ⟨a1, rfl⟩ := intC t1
 obtain ⟨a2, rfl⟩ := intC t2
 exact ⟨⟨a0, a1, a2⟩, rfl, rfl, rfl⟩
set_option maxRecDepth 100000 in
theorem eventC {H : Type} {enc : TypeId × Value → H} {w : World} {n : Nat} {v0 v1 v2 v3 v4 : Value} {y : DataW H × List MemPlace} (h : DataW.trod enc Tryz.prog w 0 (fun _ => true) true n 30 [v0, v1, v2, v3, v4] = some y) : ∃ x : Ev, v0 = .int .i64 x.key.time ∧ v1 = .int .i64 x.key.source ∧ v2 = .int .i64 x.key.seq ∧ v3 = .int .i64 x.to ∧ v4 = .int .i64 x.value := by
 obtain ⟨ys, k, _, _, _, hyl, hfl⟩ := DataW.trod_struct Tryz.underlying30 h
 have hone : Tryz.prog.cellsOf 3 = 1 := by kernel_rfl
 have hone6 : Tryz.prog.cellsOf 2 = 1 := by kernel_rfl
 have hthree : Tryz.prog.cellsOf 28 = 3 := by kernel_rfl
 have f0 : DataW.trod enc Tryz.prog w 0 (fun _ => true) true k 28 (([v0, v1, v2, v3, v4].drop 0).take (Tryz.prog.cellsOf 28)) = ys[0]? := hfl 0 _ rfl
 have f1 : DataW.trod enc Tryz.prog w 0 (fun _ => true) true k 3 (([v0, v1, v2, v3, v4].drop 3).take (Tryz.prog.cellsOf 3)) = ys[1]? := hfl 1 _ rfl
 have f2 : DataW.trod enc Tryz.prog w 0 (fun _ => true) true k 2 (([v0, v1, v2, v3, v4].drop 4).take (Tryz.prog.cellsOf 2)) = ys[2]? := hfl 2 _ rfl
 rw [hthree] at f0
 rw [hone] at f1
 rw [hone6] at f2
 have yl : ys.length = 3 := hyl
 have t0 : DataW.trod enc Tryz.prog w 0 (fun _ => true) true k 28 [v0, v1, v2] = some (ys[0]'(by omega)) := f0.trans (List.getElem?_eq_getElem _)
 have t1 : DataW.trod enc Tryz.prog w 0 (fun _ => true) true k 3 [v3] = some (ys[1]'(by omega)) := f1.trans (List.getElem?_eq_getElem _)
 have t2 : DataW.trod enc Tryz.prog w 0 (fun _ => true) true k 2 [v4] = some (ys[2]'(by omega)) := f2.trans (List.getElem?_eq_getElem _)
 obtain ⟨kk, rfl, rfl, rfl⟩ := keyC t0
 obtain ⟨a1, rfl⟩ := intC t1
 obtain ⟨a2, rfl⟩ := int64C t2
 exact ⟨⟨kk, a1, a2⟩, rfl, rfl, rfl, rfl, rfl⟩
set_option maxRecDepth 100000 in
/-- A slice of events in memory. -/
theorem eventsC {H : Type} {enc : TypeId × Value → H} {W : World} {n : Nat} {v : Value} {y : DataW H × List MemPlace} (h : DataW.trod enc Tryz.prog W 0 (fun _ => true) true n 22 [v] = some y) : ∃ la lk lc L, v = .slice la lk lc ∧ EsIn W la L ∧ L.length = lk ∧ lk ≤ lc := by
 rcases open_slice Tryz.underlying22 h with ⟨hcs, _⟩ | ⟨a, len, cap', m, _, D, Pl, hcs, _, hl, hm, hz, _, hi⟩
 ·injection hcs with e _
  subst e
  exact ⟨none, 0, 0, [], rfl, fun i x hx => by simp at hx, rfl, Nat.le_refl _⟩
 ·injection hcs with e _
  subst e
  have hmn : len ≤ m := by rw [hz]; split <;> omega
  have key : ∀ i, i < len → ∃ x : Ev, ∃ g o, a = ⟨g, o, none⟩ ∧ EAt W g (o + i * 5) x := fun i hin => by
   obtain ⟨cs, hc, ht⟩ := hi i (by omega)
   rw [show Tryz.prog.cellsOf 30 = 5 by kernel_rfl] at hc
   obtain ⟨_, hcl, hat⟩ := World.cells?_some hc
   match cs, hcl with
   | [v0, v1, v2, v3, v4], _ =>
   have c0 := hat 0 (by omega)
   have c1 := hat 1 (by omega)
   have c2 := hat 2 (by omega)
   have c3 := hat 3 (by omega)
   have c4 := hat 4 (by omega)
   obtain ⟨x, rfl, rfl, rfl, rfl, rfl⟩ := eventC ht
   obtain ⟨cs', hc', _⟩ := hi 0 (by omega)
   rw [show Tryz.prog.cellsOf 30 = 5 by kernel_rfl] at hc'
   obtain ⟨_, hcl', hat'⟩ := World.cells?_some hc'
   have z0 := hat' 0 (by omega)
   rw [List.getElem?_eq_getElem (by omega)] at z0
   obtain ⟨b, off, spot⟩ := a
   have hspot : spot = none := by simpa [Addr.add] using World.cell?_spot z0
   subst hspot
   rw [Addr.add_mid, Addr.add_mid] at c0 c1 c2 c3 c4
   exact ⟨x, b, off, rfl, c0, c1, c2, c3, c4⟩
  obtain ⟨xs, hxl, hx⟩ := listC len key
  refine ⟨some a, len, cap', xs, rfl, fun j x hj => ?_, hxl, by omega⟩
  obtain ⟨g, o, rfl, hq⟩ := hx j x hj
  exact ⟨g, o, rfl, hq⟩
end Go.Proofs.YtieeloealklkgaaGreat
