/-
  Spaces: what each function of the package does, and what the laws make of it.
-/
import Derived.Test.YtieeloealklkgaaGreatJb2
import Derived.Test.YtieeloealklkgaaGreatJb1
import Derived.Handy
import Derived.Scope
import Derived.Control
import Derived.Test.YtieeloealklkgaaGreatJa1
import Derived.Maps.AppendAt
import Derived.Test.YtieeloealklkgaaGreatShelf
import Derived.Lib.OwnBridge
import Derived.Test.YtieeloealklkgaaGreatJa2
set_option linter.unusedSimpArgs false
set_option linter.unusedVariables false
set_option maxRecDepth 100000

/-
  The queue: Cancel.
-/
namespace Go.Proofs.YtieeloealklkgaaGreat
open Go Go.RowKit Go.ChangeMaps
attribute [local go_sem ↓] Go.wp_at_zero Go.wp_at_succ
attribute [local go_sem] Oper.semAt_some wide_fn wide_depth wide_fnR wide_depthR
variable {w : World} {qb sb pb hb ba eb mb n T : Nat} {hv : Value} {X : List Pd} {F : List Nat} {P : List Pl} {first : Int} {V : List Ev}


set_option maxHeartbeats 1000000 in
theorem QCancel_none {nm : Int × Int} (h : QIn w qb sb pb hb ba eb mb hv n T X F P first V) (h1 : I64 nm.1) (h2 : I64 nm.2) (hn : ∀ y ∈ X, y.1.name ≠ nm) :
  Calls Tryz.prog 153 #[.pointer (some ⟨qb, 0, none⟩), .int .i64 nm.1, .int .i64 nm.2] w fun e w' => e = .returned (.tuple #[evV zeroEv, .int .i64 6]) ∧ Fr0 none' w w' := by
 have H := Lib.hid h
 obtain ⟨kl, hkl⟩ := name_key_is h1 h2
 have HL := Lib.hid (fun W (hf : Fr0 none' w W) => (h.fr0 hf (fun _ _ h => h)).nm.none (Go.Maps.Keyed.of_law name_law) Tryz.underlying40 (zero_ref W) hn hkl)
 obtain ⟨za, hza⟩ : ∃ za : Int, (0 : Int) = za := ⟨_, rfl⟩
 have hrz : refV 0 0 = .agg #[.int .i64 za, .int .i64 za] := by rw [← hza]; rfl
 rw [hrz] at HL
 unfold nameV at HL
 clear h h1 h2 hkl hn hza hrz
 go_enter Tryz.func153, Tryz.ntmps153
 go_wp2_with fail
 obtain ⟨q, hq⟩ : ∃ q, w.heap.size = q := ⟨_, rfl⟩
 obtain ⟨W1, hW1⟩ : ∃ W, w.alloc (.cells #[.int .i64 0, .int .i64 0, .int .i64 0, .int .i64 0, .int .i64 0] 30) = W := ⟨_, rfl⟩
 have hbq := Lib.hid (show W1.heap[q]? = some (.cells #[.int .i64 0, .int .i64 0, .int .i64 0, .int .i64 0, .int .i64 0] 30 (0, 0)) by rw [← hW1, ← hq]; exact World.alloc_heap_new w _)
 have F1 := Lib.hid (show Fr0 none' w W1 by rw [← hW1]; exact (Fr0.refl _ _).alloc _)
 rw [hW1]
 try rw [hq]
 have Hq := Lib.hid hq
 clear hW1 hq
 have h1 := H.out.fr0 F1.out (fun _ _ h => h)
 have H1 := Lib.hid h1
 refine (qnone_is h1).mono ?_
 rintro e w1 ⟨rfl, rfl⟩
 clear h1
 have c3 := H1.out.c3
 have hl := HL.out W1 F1.out
 obtain ⟨W2, hW2⟩ : ∃ W2, W1.alloc (.cells #[.int .i64 za, .int .i64 za] 161) = W2 := ⟨_, rfl⟩
 have f2 : Fr0 none' w W2 := by rw [← hW2]; exact F1.out.alloc _
 have b2 : W2.heap[q]? = some (.cells #[.int .i64 0, .int .i64 0, .int .i64 0, .int .i64 0, .int .i64 0] 30 (0, 0)) := by rw [← hW2]; exact (Below.heap_alloc _ _ _ (Array.getElem?_eq_some_iff.1 hbq.out).1).trans hbq.out
 clear hbq F1
 have F1 := Lib.hid f2
 have hbq := Lib.hid b2
 clear f2 b2
 have t0 := thaw_in hbq.out 0
 have t1 := thaw_in hbq.out 1
 have t2 := thaw_in hbq.out 2
 have t3 := thaw_in hbq.out 3
 have t4 := thaw_in hbq.out 4
 have y0 := cells_in hbq.out 0
 have y1 := cells_in hbq.out 1
 have y2 := cells_in hbq.out 2
 have y3 := cells_in hbq.out 3
 have y4 := cells_in hbq.out 4
 simp at y0 y1 y2 y3 y4
 go_wp2_with fail
 clear hW2
 have e6 := ev_set5 hbq.out (.int .i64 0) (.int .i64 0) (.int .i64 0) (.int .i64 0) (.int .i64 0)
 have f6 : Fr0 none' w (((((W2.setCell ⟨q, 0, none⟩ (.int .i64 0)).setCell ⟨q, 1, none⟩ (.int .i64 0)).setCell ⟨q, 2, none⟩ (.int .i64 0)).setCell ⟨q, 3, none⟩ (.int .i64 0)).setCell ⟨q, 4, none⟩ (.int .i64 0)) := F1.out.trans' (S' := fun k => k = q) (((((Fr0.refl (fun k => k = q) W2).setCell (fun _ => rfl) _).setCell (fun _ => rfl) _).setCell (fun _ => rfl) _).setCell (fun _ => rfl) _ |>.setCell (fun _ => rfl) _) (fun k hk e => by have := Hq.out; omega)
 generalize (((((W2.setCell ⟨q, 0, none⟩ (.int .i64 0)).setCell ⟨q, 1, none⟩ (.int .i64 0)).setCell ⟨q, 2, none⟩ (.int .i64 0)).setCell ⟨q, 3, none⟩ (.int .i64 0)).setCell ⟨q, 4, none⟩ (.int .i64 0)) = VV at e6 f6 ⊢
 clear y0 y1 y2 y3 y4
 have y0 := cells_in e6 0
 have y1 := cells_in e6 1
 have y2 := cells_in e6 2
 have y3 := cells_in e6 3
 have y4 := cells_in e6 4
 simp at y0 y1 y2 y3 y4
 exact bodyPost_ret (v := .tuple #[evV zeroEv, .int .i64 6]) (by simp [results, Tryz.results153, go_sem, y0, y1, y2, y3, y4, evV, zeroEv]) rfl ⟨rfl, f6⟩
set_option maxHeartbeats 1000000 in
theorem QCancel_some {y : Pd} (h : QIn w qb sb pb hb ba eb mb hv n T X F P first V) (hy : y ∈ X) (hT : T < 4294967296) :
  Calls Tryz.prog 153 #[.pointer (some ⟨qb, 0, none⟩), .int .i64 y.1.key.source, .int .i64 y.1.key.seq] w fun e w' => e = .returned (.tuple #[evV y.1, .int .i64 0]) ∧ ∃ hv' F' P' first' V', QIn w' qb sb pb hb ba eb mb hv' n T (delX y.2 X) F' P' first' V' ∧ Fr0 (qfoot qb sb pb hb ba eb mb hv) w w' ∧ ∀ g, hv'.ownBlock = some g → hv.ownBlock = some g ∨ w.heap.size ≤ g := by
 have H := Lib.hid h
 obtain ⟨x, p⟩ := y
 obtain ⟨pl, hpl, _⟩ := h.ok.tk _ hy
 have Hpl := Lib.hid hpl
 have Hy := Lib.hid hy
 obtain ⟨hi1, hi2⟩ := rightE_i64 (h.right _ hy)
 obtain ⟨kl, hkl⟩ := name_key_is hi1 hi2
 have HL := Lib.hid (fun W (hf : Fr0 none' w W) => ((h.fr0 hf (fun _ _ h => h)).nm.look (Go.Maps.Keyed.of_law name_law) Tryz.underlying40 (zero_ref W) hy hkl).1)
 rw [lifeP_at hpl] at HL
 unfold nameV refV Ev.name at HL
 simp only at HL ⊢
 have hvx := h.vx _ hy
 have hpn : p < n := h.ok.xlt hy
 have Hvx := Lib.hid hvx
 have z1 : (0 : Int) ≤ (p : Int) := by omega
 have z2 : (p : Int) < (n : Int) := by omega
 simp only at hpl hvx
 clear h hkl hi1 hi2 hpl hvx hy
 go_enter Tryz.func153, Tryz.ntmps153
 go_wp2_with fail
 obtain ⟨q, hq⟩ : ∃ q, w.heap.size = q := ⟨_, rfl⟩
 obtain ⟨W1, hW1⟩ : ∃ W, w.alloc (.cells #[.int .i64 0, .int .i64 0, .int .i64 0, .int .i64 0, .int .i64 0] 30) = W := ⟨_, rfl⟩
 have hbq := Lib.hid (show W1.heap[q]? = some (.cells #[.int .i64 0, .int .i64 0, .int .i64 0, .int .i64 0, .int .i64 0] 30 (0, 0)) by rw [← hW1, ← hq]; exact World.alloc_heap_new w _)
 have F1 := Lib.hid (show Fr0 none' w W1 by rw [← hW1]; exact (Fr0.refl _ _).alloc _)
 rw [hW1]
 try rw [hq]
 have Hq := Lib.hid hq
 clear hW1 hq
 have h1 := H.out.fr0 F1.out (fun _ _ h => h)
 have H1 := Lib.hid h1
 refine (qnone_is h1).mono ?_
 rintro e w1 ⟨rfl, rfl⟩
 clear h1
 have c3 := H1.out.c3
 have hl := HL.out W1 F1.out
 obtain ⟨W2, hW2⟩ : ∃ W2, W1.alloc (.cells #[.int .i64 p, .int .i64 pl.life] 161) = W2 := ⟨_, rfl⟩
 have f12 : Fr0 none' W1 W2 := by rw [← hW2]; exact (Fr0.refl _ _).alloc _
 have f2 : Fr0 none' w W2 := F1.out.trans f12
 have b2 := (f12.block q (Array.getElem?_eq_some_iff.1 hbq.out).1 id).trans hbq.out
 have br2 : W2.heap[W1.heap.size]? = some (.cells #[.int .i64 p, .int .i64 pl.life] 161 (0, 0)) := by rw [← hW2]; exact World.alloc_heap_new W1 _
 have H2 := Lib.hid (H1.out.fr0 f12 (fun _ _ h => h))
 have BQ := Lib.hid hbq.out
 clear hbq F1
 have F1 := Lib.hid f2
 have hbq := Lib.hid b2
 have Br2 := Lib.hid br2
 obtain ⟨q2, hq2⟩ : ∃ q2, W1.heap.size = q2 := ⟨_, rfl⟩
 rw [hq2] at Br2
 have r0 := cells_in Br2.out 0
 have r1 := cells_in Br2.out 1
 simp at r0 r1
 have Hb2 := Lib.hid (show w.heap.size ≤ q ∧ q < W1.heap.size from ⟨by have := Hq.out; omega, by have := (Array.getElem?_eq_some_iff.1 BQ.out).1; exact this⟩)
 clear f2 b2 f12 br2
 have t0 := thaw_in hbq.out 0
 have t1 := thaw_in hbq.out 1
 have t2 := thaw_in hbq.out 2
 have t3 := thaw_in hbq.out 3
 have t4 := thaw_in hbq.out 4
 have y0 := cells_in hbq.out 0
 have y1 := cells_in hbq.out 1
 have y2 := cells_in hbq.out 2
 have y3 := cells_in hbq.out 3
 have y4 := cells_in hbq.out 4
 simp at y0 y1 y2 y3 y4
 go_wp2_with fail
 clear hW2
 have HRem := Lib.hid (Qremove_is H2.out Hy.out Hpl.out hT)
 simp only [evV] at HRem
 refine HRem.out.mono ?_
 rintro e W7 ⟨rfl, hv', hQ7, f57, own7⟩
 have hold : ∀ k, w.heap.size ≤ k → ¬ qfoot qb sb pb hb ba eb mb hv k := fun k hk hf => by have := H.out.lt k hf; omega
 have hb7 := Lib.hid ((f57.block q (Array.getElem?_eq_some_iff.1 hbq.out).1 (hold _ Hb2.out.1)).trans hbq.out)
 have F7 := Lib.hid ((F1.out.mono (fun _ _ h => h.elim)).trans f57)
 have own7 := Lib.hid (show ∀ g, hv'.ownBlock = some g → hv.ownBlock = some g ∨ W2.heap.size ≤ g from own7)
 have HQ7 := Lib.hid hQ7
 have hz2 := (Array.getElem?_eq_some_iff.1 hbq.out).1
 have Hz2 := Lib.hid hz2
 clear y0 y1 y2 y3 y4 t0 t1 t2 t3 t4 hz2 hQ7 f57 hold r0 r1
 have y0 := cells_in hb7.out 0
 have y1 := cells_in hb7.out 1
 have y2 := cells_in hb7.out 2
 have y3 := cells_in hb7.out 3
 have y4 := cells_in hb7.out 4
 simp at y0 y1 y2 y3 y4
 have t0 := thaw_in hb7.out 0
 have t1 := thaw_in hb7.out 1
 have t2 := thaw_in hb7.out 2
 have t3 := thaw_in hb7.out 3
 have t4 := thaw_in hb7.out 4
 go_wp2_with fail
 obtain ⟨W8, hW8⟩ : ∃ W, (((((W7.setCell ⟨q, 0, none⟩ (.int .i64 x.key.time)).setCell ⟨q, 1, none⟩ (.int .i64 x.key.source)).setCell ⟨q, 2, none⟩ (.int .i64 x.key.seq)).setCell ⟨q, 3, none⟩ (.int .i64 x.to)).setCell ⟨q, 4, none⟩ (.int .i64 x.value)) = W := ⟨_, rfl⟩
 try rw [hW8]
 have e8 : W8.heap[q]? = some (.cells #[.int .i64 x.key.time, .int .i64 x.key.source, .int .i64 x.key.seq, .int .i64 x.to, .int .i64 x.value] 30 (0, 0)) := by rw [← hW8]; exact ev_set5 hb7.out _ _ _ _ _
 have f78 : Fr0 (fun k => k = q) W7 W8 := by rw [← hW8]; exact (((((Fr0.refl (fun k => k = q) W7).setCell (fun _ => rfl) _).setCell (fun _ => rfl) _).setCell (fun _ => rfl) _).setCell (fun _ => rfl) _).setCell (fun _ => rfl) _
 have hQ8 := HQ7.out.fr0 f78 (fun k hk e => by
  have h1 : ∀ j, qfoot qb sb pb hb ba eb mb hv j → j ≠ q := fun j hj => by
   have := H.out.lt j hj
   have := Hb2.out.1
   omega
  rcases hk with h | h | h | h | h | h | h | h
  ·exact h1 k (.inl h) e
  ·exact h1 k (.inr (.inl h)) e
  ·exact h1 k (.inr (.inr (.inl h))) e
  ·exact h1 k (.inr (.inr (.inr (.inl h)))) e
  ·exact h1 k (.inr (.inr (.inr (.inr (.inl h))))) e
  ·exact h1 k (.inr (.inr (.inr (.inr (.inr (.inl h)))))) e
  ·exact h1 k (.inr (.inr (.inr (.inr (.inr (.inr (.inl h))))))) e
  ·rcases own7.out k h with g | g
   ·exact h1 k (.inr (.inr (.inr (.inr (.inr (.inr (.inr g))))))) e
   ·have := Hz2.out; omega)
 have f8 : Fr0 (qfoot qb sb pb hb ba eb mb hv) w W8 := F7.out.trans' f78 (fun k hk e => by have := Hb2.out.1; omega)
 have own8 : ∀ g, hv'.ownBlock = some g → hv.ownBlock = some g ∨ w.heap.size ≤ g := fun g hg => (own7.out g hg).imp id (fun h => Nat.le_trans F1.out.size h)
 clear y0 y1 y2 y3 y4
 have y0 := cells_in e8 0
 have y1 := cells_in e8 1
 have y2 := cells_in e8 2
 have y3 := cells_in e8 3
 have y4 := cells_in e8 4
 simp at y0 y1 y2 y3 y4
 exact bodyPost_ret (v := .tuple #[evV x, .int .i64 0]) (by simp [results, Tryz.results153, go_sem, y0, y1, y2, y3, y4, evV]) rfl ⟨rfl, hv', _, _, _, _, hQ8, f8, own8⟩
/-- Cancel, on a queue. -/
theorem QIs.cancel {E : List Ev} {ft : Nat → Prop} (h : QIs w qb n T E ft) {nm : Int × Int} (h1 : I64 nm.1) (h2 : I64 nm.2) (hT : T < 4294967296) :
  Calls Tryz.prog 153 #[.pointer (some ⟨qb, 0, none⟩), .int .i64 nm.1, .int .i64 nm.2] w fun e w' => e = .returned (.tuple #[evV ((findE nm E).getD zeroEv), .int .i64 (if (findE nm E).isSome then 0 else 6)]) ∧ QIs w' qb n T (delE nm E) (qgrow ft w w') ∧ Fr0 ft w w' := by
 obtain ⟨sb, pb, hb, ba, eb, mb, hv, X, F, P, first, V, hq, rfl, h3, h4⟩ := h
 cases hf : findE nm (X.map Prod.fst) with
 | none =>
  rw [findE_none] at hf
  rw [delE_none hf]
  refine (QCancel_none hq h1 h2 (fun y hy => hf _ (List.mem_map.2 ⟨y, hy, rfl⟩))).mono ?_
  rintro e w' ⟨rfl, hf⟩
  exact ⟨rfl, (hq.fr0 hf (fun _ _ h => h)).grown rfl h3 h4 hf.size (fun g hg => .inl hg), hf.mono (fun _ _ h => h.elim)⟩
 | some x =>
  rw [findE_some hq.once] at hf
  obtain ⟨hm, hn⟩ := hf
  obtain ⟨y, hy, rfl⟩ := List.mem_map.1 hm
  subst hn
  refine (QCancel_some hq hy hT).mono ?_
  rintro e w' ⟨rfl, hv', F', P', first', V', hq', hf', own⟩
  exact ⟨rfl, hq'.grown (delX_fst hq.once hq.ok.snd hy) h3 h4 hf'.size own, hf'.mono (fun k _ hk => h3 k hk)⟩
end Go.Proofs.YtieeloealklkgaaGreat

/-
  The queue: check.
-/
namespace Go.Proofs.YtieeloealklkgaaGreat
open Go Go.RowKit Go.ChangeMaps
attribute [local go_sem ↓] Go.wp_at_zero Go.wp_at_succ
attribute [local go_sem] Oper.semAt_some wide_fn wide_depth wide_fnR wide_depthR

section
variable {P : Program} {k t e : TypeId} {w : World} {b n : Nat} {c : Int × Int → Option Int}
theorem MetIs.put (h : MetIs P k w b n c) (K : Go.WideMaps.KeyLaw P k) (ht : P.underlying t = some (.map k e)) (hn : n < maxLen) {nm : Int × Int} {kl : Lit} (hk : keyOf P k (nameV nm) = some kl) (v : Int) :
  ∃ w', (Instr.mapUpdate t (.map (some b)) (nameV nm) (.int .i64 v)).run P w = .ok () w' ∧ MetIs P k w' b (n + 1) (fun m => if m = nm then some v else c m) ∧ Fr0 (fun j => j = b) w w' := by
 obtain ⟨D, h1, h2⟩ := h
 have hD := h1.tidy (Go.Maps.Keyed.of_law K)
 obtain ⟨w', hr, ho', hm⟩ := h1.store (Go.Maps.Keyed.of_law K) ht hn hk (show intR (.int .i64 v) = some (_, _) from rfl)
 have hg := hm.grown
 refine ⟨w', hr, ⟨_, ho', fun m kl' hk' => ?_⟩, ⟨hg.os, hg.tape, hg.output, hg.size, fun i hi hs => hg.block i hi (fun e => hs (Option.some.inj e))⟩⟩
 by_cases hm : m = nm
 ·subst hm
  rw [hk] at hk'
  cases hk'
  simp only [if_pos rfl]
  exact ⟨Maps.has_put_same hD.isMap ((Go.Maps.Keyed.of_law K).key hk) _, Maps.atKey_put_same hD.isMap ((Go.Maps.Keyed.of_law K).key hk) _ _⟩
 ·have hne : kl' ≠ kl := fun e => by
   subst e
   have := K.inj hk' hk
   unfold nameV at this
   simp only [Value.agg.injEq, Array.mk.injEq, List.cons.injEq, Value.int.injEq, true_and, and_true] at this
   exact hm (Prod.ext this.1 this.2)
  simp only [if_neg hm]
  rw [Maps.has_put_other hne, Maps.atKey_put_other hne]
  exact h2 m kl' hk'
end
variable {w : World} {qb sb pb hb ba eb mb n T : Nat} {hv : Value} {X : List Pd} {F : List Nat} {P : List Pl} {first : Int} {V : List Ev}
theorem QIn.looks (h : QIn w qb sb pb hb ba eb mb hv n T X F P first V) {nm : Int × Int} (h1 : I64 nm.1) (h2 : I64 nm.2) : ∃ pa pb : Int, ∀ W, Fr0 none' w W → (Instr.lookup 40 (.map (some mb)) (nameV nm) true).run Tryz.prog W = .ok (.tuple #[.agg #[.int .i64 pa, .int .i64 pb], .bool ((X.map Prod.fst).any (fun y => y.name == nm))]) W := by
 obtain ⟨kl, hkl⟩ := name_key_is h1 h2
 by_cases hx : ∃ y ∈ X, y.1.name = nm
 ·obtain ⟨y, hy, rfl⟩ := hx
  have ha : (X.map Prod.fst).any (fun z => z.name == y.1.name) = true := by
   rw [List.any_eq_true]
   exact ⟨y.1, List.mem_map.2 ⟨y, hy, rfl⟩, by simp⟩
  rw [ha]
  exact ⟨_, _, fun W hf => ((h.fr0 hf (fun _ _ h => h)).nm.look (Go.Maps.Keyed.of_law name_law) Tryz.underlying40 (zero_ref W) hy hkl).1⟩
 ·have hn : ∀ y ∈ X, y.1.name ≠ nm := fun y hy e => hx ⟨y, hy, e⟩
  have ha : (X.map Prod.fst).any (fun z => z.name == nm) = false := by
   rw [List.any_eq_false]
   intro z hz
   obtain ⟨y, hy, rfl⟩ := List.mem_map.1 hz
   simpa using hn y hy
  rw [ha]
  exact ⟨0, 0, fun W hf => (h.fr0 hf (fun _ _ h => h)).nm.none (Go.Maps.Keyed.of_law name_law) Tryz.underlying40 (zero_ref W) hn hkl⟩
theorem viaT' {T : Type} {P : Program} {c : Code} {K : Act → World → Prop} {Q : Exit → Act → World → Prop} {a : Act} {w : World} (F : T → World → Prop) (vs : T → List (Nat × Value))
  (t : ∀ q W, F q W → K ((vs q).foldl (fun a p => a.put (some p.1) p.2) a) W)
  (h : (∀ q W, F q W → K ((vs q).foldl (fun a p => a.put (some p.1) p.2) a) W) → c.wp P (Exit.then K Q) a w) : c.wp P (Exit.then K Q) a w := h t
theorem wrong_any (x : Ev) (w : World) : Calls Tryz.prog 81 #[evV x] w fun e w' => e = .returned (.bool (!decide (RightE x))) ∧ Fr0 none' w w' := by
 have HR := Lib.hid (QRight_is x)
 obtain ⟨b, hb⟩ : ∃ b, decide (RightE x) = b := ⟨_, rfl⟩
 rw [hb] at HR ⊢
 clear hb
 unfold evV at HR ⊢
 go_enter Tryz.func81, Tryz.ntmps81
 go_wp2_with fail
 refine (HR.out _).mono ?_
 rintro e w1 ⟨rfl, hf⟩
 go_wp2
 go_ret
 exact ⟨rfl, ((Fr0.refl none' w).alloc _).trans hf⟩
set_option maxHeartbeats 2000000 in
theorem Qcheck_is (h : QIn w qb sb pb hb ba eb mb hv n T X F P first V) {a : Option Addr} {m cap : Nat} (l : List Ev) (hl : EsIn w a l) (hm : l.length = m) (hm' : m ≤ 100000) :
  Calls Tryz.prog 58 #[.pointer (some ⟨qb, 0, none⟩), .slice a m cap] w fun e w' => e = .returned (.tuple #[.int .i64 (chkE (X.map Prod.fst) l).1, .int .i64 (chkE (X.map Prod.fst) l).2]) ∧ Fr0 none' w w' := by
 obtain ⟨R, hR⟩ : ∃ R, chkE (X.map Prod.fst) l = R := ⟨_, rfl⟩
 rw [hR]
 have HR := Lib.hid hR
 have H := Lib.hid h
 have Hl := Lib.hid hl
 have Hm := Lib.hid hm
 have HI := Lib.hid (IndexE (cap := cap) l hl hm (by omega) 81 #[] (fun x => !decide (RightE x)) (by intro args w; rfl) (fun x W _ => wrong_any x W))
 clear h hl hm hR
 rcases idxI_cases (fun x => !decide (RightE x)) l with ⟨hi, hall⟩ | ⟨k, hi, hkl, _⟩
 ·rw [hi] at HI
  have HA := Lib.hid hall
  have HIe := Lib.hid hi
  clear hi hall
  go_enter Tryz.func58, Tryz.ntmps58
  go_wp2_with fail
  refine HI.out.mono ?_
  rintro e w1 ⟨rfl, hf1⟩
  have F1 := Lib.hid hf1
  clear hf1
  have hmm := @run_makeMap Tryz.prog
  go_wp2_with fail
  clear hmm
  obtain ⟨B, hB⟩ : ∃ B, w1.heap.size = B := ⟨_, rfl⟩
  obtain ⟨W2, hW2⟩ : ∃ W, w1.alloc (.map #[] 0) = W := ⟨_, rfl⟩
  have M2 := Lib.hid (show MetIs Tryz.prog 164 W2 B 0 (fun _ => none) by rw [← hW2, ← hB]; exact met_made w1)
  have F2 := Lib.hid (show Fr0 none' w W2 by rw [← hW2]; exact F1.out.alloc _)
  have HB := Lib.hid (show w.heap.size ≤ B by rw [← hB]; exact F1.out.size)
  rw [hW2]
  try rw [hB]
  clear hW2 hB
  go_loopw [8, 9, 10, 11, 12, 13, 22] (fun _ _ _ _ _ _ i wr => ∃ (k : Nat) (c : Int × Int → Option Int), k ≤ m ∧ i = .int .i64 k ∧ Hid (∀ i, i < k → dupB (X.map Prod.fst) l i = false) ∧ Hid (MetIs Tryz.prog 164 wr B k c) ∧ Hid (∀ nm, (c nm).isSome = (l.take k).any (fun y => y.name == nm)) ∧ Hid (Fr0 none' w wr)) (fun _ _ _ _ _ _ i _ => m - (Go.RowKit.intOf i).toNat)
  case atStart => exact ⟨0, _, Nat.zero_le _, rfl, (fun i hi => absurd hi (Nat.not_lt_zero i)), M2, (fun nm => by simp), F2⟩
  case round =>
   obtain ⟨k, c, hk, rfl, hpre, hmet, hcs, hfr⟩ := hrel
   by_cases hlt : k < m
   ·obtain ⟨x, hx⟩ : ∃ x, l[k]? = some x := ⟨_, List.getElem?_eq_getElem (by rw [Hm.out]; exact hlt)⟩
    obtain ⟨g2, o, rfl, hxc⟩ := Hl.out k x hx
    obtain ⟨x0, x1, x2, x3, x4⟩ := hxc.later hfr.out
    have hre : RightE x := by simpa using HA.out x (List.mem_of_getElem? hx)
    have Hi64 := Lib.hid (rightE_i64 hre)
    have Hx := Lib.hid hx
    have k1 : (0 : Int) ≤ (k : Int) := by omega
    have k2 : (k : Int) < (m : Int) := by omega
    clear hx hxc hre
    go_wp2_with fail
    obtain ⟨q, hq⟩ : ∃ q, wr.heap.size = q := ⟨_, rfl⟩
    obtain ⟨W3, hW3⟩ : ∃ W, wr.alloc (.cells #[.int .i64 x.key.time, .int .i64 x.key.source, .int .i64 x.key.seq, .int .i64 x.to, .int .i64 x.value] 30) = W := ⟨_, rfl⟩
    have hb3 := Lib.hid (show W3.heap[q]? = some (.cells #[.int .i64 x.key.time, .int .i64 x.key.source, .int .i64 x.key.seq, .int .i64 x.to, .int .i64 x.value] 30 (0, 0)) by rw [← hW3, ← hq]; exact World.alloc_heap_new wr _)
    have F3r := Lib.hid (show Fr0 none' wr W3 by rw [← hW3]; exact (Fr0.refl _ _).alloc _)
    have XB := Lib.hid (show EAt W3 q 0 x by refine ⟨?_, ?_, ?_, ?_, ?_⟩ <;> rw [cells_in hb3.out] <;> rfl)
    rw [hW3]
    try rw [hq]
    clear hW3 hq x0 x1 x2 x3 x4
    have H3 := Lib.hid (H.out.fr0 (hfr.out.trans F3r.out) (fun _ _ h => h))
    have C3 := Lib.hid H3.out.c3
    obtain ⟨pa, pb, hlook⟩ := H3.out.looks Hi64.out.1 Hi64.out.2
    obtain ⟨th, hth⟩ : ∃ th, (X.map Prod.fst).any (fun y => y.name == x.name) = th := ⟨_, rfl⟩
    rw [hth] at hlook
    have HLook := Lib.hid hlook
    have Hth := Lib.hid hth
    clear hlook hth
    refine viaT' (T := Nat → Value) (fun _ W => Fr0 none' W3 W) (fun us => [(28, us 0), (29, us 1), (30, us 2), (31, us 3), (32, us 4), (33, us 5), (34, us 6), (27, us 7), (35, us 8), (36, us 9), (10, us 10), (11, .bool th)]) (fun us W hF => ?_) (fun hT => ?_)
    ·simp only [List.foldl, Act.put, List.setIfInBounds_toArray, List.set_cons_zero, List.set_cons_succ]
     have F3 := Lib.hid ((hfr.out.trans F3r.out).trans hF)
     obtain ⟨kl, hkl⟩ := name_key_is Hi64.out.1 Hi64.out.2
     have Hkl := Lib.hid hkl
     have HM := Lib.hid (fun (W' : World) (hf : Fr0 none' W W') => (hmet.out.fr0 ((F3r.out.trans hF).trans hf) id))
     obtain ⟨ci, hci⟩ : ∃ ci, (c x.name).getD 0 = ci := ⟨_, rfl⟩
     obtain ⟨be, hbe⟩ : ∃ be, (c x.name).isSome = be := ⟨_, rfl⟩
     have HL2 := Lib.hid (fun (W' : World) (hf : Fr0 none' W W') => ((HM.out W' hf).look name_law Tryz.underlying159 (Tryz.zeroValue3 W') hkl).1)
     rw [hci, hbe] at HL2
     have Hbe := Lib.hid (show (l.take k).any (fun y => y.name == x.name) = be by rw [← hcs.out, hbe])
     obtain ⟨x0, x1, x2, x3, x4⟩ := XB.out.later hF
     simp only [Nat.zero_add] at x0 x1 x2 x3 x4
     have XB := Lib.hid (XB.out.later hF)
     have hdup := Lib.hid (show dupB (X.map Prod.fst) l k = (th || be) by
      unfold dupB
      rw [Hx.out]
      simp only [List.any_append]
      rw [Hth.out, Hbe.out])
     clear hkl hci hbe hF
     go_wp2_with fail
     refine (of_any x _).mono ?_
     rintro e w5 ⟨rfl, hf5⟩
     have hl2 := HL2.out w5 hf5
     obtain ⟨x0, x1, x2, x3, x4⟩ := XB.out.later hf5
     simp only [Nat.zero_add] at x0 x1 x2 x3 x4
     have XB := Lib.hid (XB.out.later hf5)
     have hM5 := Lib.hid (HM.out w5 hf5)
     have F5 := Lib.hid (F3.out.trans hf5)
     clear hf5 HM HL2
     cases th
     ·cases be
      ·go_wp2_with fail
       refine (of_any x _).mono ?_
       rintro e w6 ⟨rfl, hf6⟩
       obtain ⟨w7, hrun, hm7, hf7⟩ := (hM5.out.fr0 hf6 id).put name_law Tryz.underlying159 (by unfold maxLen; omega) Hkl.out (k : Int)
       have hm7 := Lib.hid hm7
       have F7 := Lib.hid ((F5.out.trans hf6).trans' hf7 (fun i hi e => by have := HB.out; omega))
       clear hf6 hf7 x0 x1 x2 x3 x4 hl2
       go_wp2_with fail
       clear hrun
       go_roundw
       case rel =>
        refine ⟨k + 1, _, by omega, by go_num, fun i hi => ?_, hm7, fun nm => ?_, F7⟩
        ·by_cases e : i = k
         ·rw [e, hdup.out]; rfl
         ·exact hpre.out i (by omega)
        ·rw [List.take_add_one, Hx.out]
         simp only [Option.toList_some, List.any_append, List.any_cons, List.any_nil, Bool.or_false]
         rw [← hcs.out nm]
         by_cases e : nm = x.name
         ·rw [if_pos e]; simp [e]
         ·rw [if_neg e]
          have : (x.name == nm) = false := by simpa using fun h => e h.symm
          rw [this, Bool.or_false]
       case measure => simp [Go.RowKit.intOf]; omega
      ·skip
       have hres := Lib.hid (show ((k : Int), (101 : Int)) = R by
        rw [← HR.out]
        unfold chkE
        rw [HIe.out, if_neg (by omega), dupI_at (by rw [Hm.out]; exact hlt) hpre.out (by rw [hdup.out]; simp), if_pos (by omega)])
       go_wp2_with fail
       go_ret2
       exact ⟨by rw [← hres.out]; rfl, F5.out⟩
     ·skip
      have hres := Lib.hid (show ((k : Int), (101 : Int)) = R by
       rw [← HR.out]
       unfold chkE
       rw [HIe.out, if_neg (by omega), dupI_at (by rw [Hm.out]; exact hlt) hpre.out (by rw [hdup.out]; simp), if_pos (by omega)])
      go_wp2_with fail
      go_ret2
      exact ⟨by rw [← hres.out]; rfl, F5.out⟩
    ·simp only [List.foldl, Act.put, List.setIfInBounds_toArray, List.set_cons_zero, List.set_cons_succ] at hT
     have HT := Lib.hid hT
     clear hT
     refine wp_region_held_drew (S := fun W' => Fr0 none' W3 W') (by kernel_rfl) ((Fr0.refl none' W3).drew) (fun hHeld => ?_)
     refine tkn (i := 0) (v := .pointer (some ⟨qb, 0, none⟩)) (fun W' hSW => ?_) ?_
     ·(try dsimp only at hSW)
      first | (go_simp; done) | (have s0 := hSW.later C3.out; obtain ⟨s1, s2, s3, s4, s5⟩ := XB.out.later hSW; (try simp only [Nat.zero_add] at s1 s2 s3 s4 s5); (try simp only [evV]); go_simp; done) | (have hl := HLook.out W' hSW; go_simp; done) | exact rfl | (go_simp; rfl)
     try simp only[pUt,pUn,sEt,sEz,sEs]
     refine tkn (i := 1) (v := .pointer (some ⟨qb, 0, none⟩)) (fun W' hSW => ?_) ?_
     ·(try dsimp only at hSW)
      first | (go_simp; done) | (have s0 := hSW.later C3.out; obtain ⟨s1, s2, s3, s4, s5⟩ := XB.out.later hSW; (try simp only [Nat.zero_add] at s1 s2 s3 s4 s5); (try simp only [evV]); go_simp; done) | (have hl := HLook.out W' hSW; go_simp; done) | exact rfl | (go_simp; rfl)
     try simp only[pUt,pUn,sEt,sEz,sEs]
     refine tkn (i := 2) (v := .pointer (some ⟨qb, 3, none⟩)) (fun W' hSW => ?_) ?_
     ·(try dsimp only at hSW)
      first | (go_simp; done) | (have s0 := hSW.later C3.out; obtain ⟨s1, s2, s3, s4, s5⟩ := XB.out.later hSW; (try simp only [Nat.zero_add] at s1 s2 s3 s4 s5); (try simp only [evV]); go_simp; done) | (have hl := HLook.out W' hSW; go_simp; done) | exact rfl | (go_simp; rfl)
     try simp only[pUt,pUn,sEt,sEz,sEs]
     refine tkn (i := 3) (v := .map (some mb)) (fun W' hSW => ?_) ?_
     ·(try dsimp only at hSW)
      first | (go_simp; done) | (have s0 := hSW.later C3.out; obtain ⟨s1, s2, s3, s4, s5⟩ := XB.out.later hSW; (try simp only [Nat.zero_add] at s1 s2 s3 s4 s5); (try simp only [evV]); go_simp; done) | (have hl := HLook.out W' hSW; go_simp; done) | exact rfl | (go_simp; rfl)
     try simp only[pUt,pUn,sEt,sEz,sEs]
     refine tkn (i := 4) (v := evV x) (fun W' hSW => ?_) ?_
     ·(try dsimp only at hSW)
      first | (go_simp; done) | (have s0 := hSW.later C3.out; obtain ⟨s1, s2, s3, s4, s5⟩ := XB.out.later hSW; (try simp only [Nat.zero_add] at s1 s2 s3 s4 s5); (try simp only [evV]); go_simp; done) | (have hl := HLook.out W' hSW; go_simp; done) | exact rfl | (go_simp; rfl)
     try simp only[pUt,pUn,sEt,sEz,sEs]
     refine wpAnyH_ready (rs := [5, 10]) (by kernel_rfl) (by simp) (AllReadyH.cons (op_at rfl) (fun K hK => ?_) (AllReadyH.cons (op_at rfl) (fun K hK => ?_) AllReadyH.nil))
     ·rw [if_pos (by kernel_rfl)]
      go_simp
      refine (of_any x _).mono ?_
      rintro e w5 ⟨rfl, hf5⟩
      have G := Lib.hid (hHeld.trans hf5)
      refine hK.out _ _ G.out (fun hHeld => ?_)
      clear hK K
      try simp only[pUt,pUn,sEt,sEz,sEs]
      refine tkn (i := 6) (v := .tuple #[.agg #[.int .i64 pa, .int .i64 pb], .bool th]) (fun W' hSW => ?_) ?_
      ·(try dsimp only at hSW)
       first | (go_simp; done) | (have s0 := hSW.later C3.out; obtain ⟨s1, s2, s3, s4, s5⟩ := XB.out.later hSW; (try simp only [Nat.zero_add] at s1 s2 s3 s4 s5); (try simp only [evV]); go_simp; done) | (have hl := HLook.out W' hSW; go_simp; done) | exact rfl | (go_simp; rfl)
      try simp only[pUt,pUn,sEt,sEz,sEs]
      refine tkn (i := 7) (v := .tuple #[.agg #[.int .i64 pa, .int .i64 pb], .bool th]) (fun W' hSW => ?_) ?_
      ·(try dsimp only at hSW)
       first | (go_simp; done) | (have s0 := hSW.later C3.out; obtain ⟨s1, s2, s3, s4, s5⟩ := XB.out.later hSW; (try simp only [Nat.zero_add] at s1 s2 s3 s4 s5); (try simp only [evV]); go_simp; done) | (have hl := HLook.out W' hSW; go_simp; done) | exact rfl | (go_simp; rfl)
      try simp only[pUt,pUn,sEt,sEz,sEs]
      refine tkn (i := 8) (v := .agg #[.int .i64 pa, .int .i64 pb]) (fun W' hSW => ?_) ?_
      ·(try dsimp only at hSW)
       first | (go_simp; done) | (have s0 := hSW.later C3.out; obtain ⟨s1, s2, s3, s4, s5⟩ := XB.out.later hSW; (try simp only [Nat.zero_add] at s1 s2 s3 s4 s5); (try simp only [evV]); go_simp; done) | (have hl := HLook.out W' hSW; go_simp; done) | exact rfl | (go_simp; rfl)
      try simp only[pUt,pUn,sEt,sEz,sEs]
      refine tkn (i := 9) (v := .bool th) (fun W' hSW => ?_) ?_
      ·(try dsimp only at hSW)
       first | (go_simp; done) | (have s0 := hSW.later C3.out; obtain ⟨s1, s2, s3, s4, s5⟩ := XB.out.later hSW; (try simp only [Nat.zero_add] at s1 s2 s3 s4 s5); (try simp only [evV]); go_simp; done) | (have hl := HLook.out W' hSW; go_simp; done) | exact rfl | (go_simp; rfl)
      try simp only[pUt,pUn,sEt,sEz,sEs]
      refine take_call (i := 10) rfl (by kernel_rfl) (by kernel_rfl) (fun K hK => ?_)
      go_simp
      obtain ⟨qa, hqa⟩ : ∃ qa, w5.heap.size = qa := ⟨_, rfl⟩
      obtain ⟨WA, hWA⟩ : ∃ W, (w5.alloc (.cells #[.int .i64 0, .int .i64 0] 161)) = W := ⟨_, rfl⟩
      have hbA := Lib.hid (show WA.heap[qa]? = some (.cells #[.int .i64 0, .int .i64 0] 161 (0, 0)) by rw [← hWA, ← hqa]; exact World.alloc_heap_new w5 _)
      have HQa := Lib.hid (show W3.heap.size ≤ qa by rw [← hqa]; exact hHeld.size)
      have G := Lib.hid (show Fr0 none' W3 WA by rw [← hWA]; exact (hHeld.alloc _))
      rw [hWA]
      try rw [hqa]
      clear hWA hqa
      refine hK.out _ _ G.out (fun hHeld => ?_)
      clear hK K
      try simp only[pUt,pUn,sEt,sEz,sEs]
      refine take_call (i := 11) rfl (by kernel_rfl) (by kernel_rfl) (fun K hK => ?_)
      have r0 := cells_in hbA.out 0
      have r1 := cells_in hbA.out 1
      simp at r0 r1
      have t0 := thaw_in hbA.out 0
      have t1 := thaw_in hbA.out 1
      go_simp
      clear r0 r1 t0 t1
      have G := Lib.hid ((hHeld.setCell (b := qa) (o := 0) (fun h => absurd h (Nat.not_lt.2 HQa.out)) (.int .i64 pa)).setCell (b := qa) (o := 1) (fun h => absurd h (Nat.not_lt.2 HQa.out)) (.int .i64 pb))
      refine hK.out _ _ G.out (fun hHeld => ?_)
      clear hK K
      try simp only[pUt,pUn,sEt,sEz,sEs]
      refine take_call (i := 12) rfl (by kernel_rfl) (by kernel_rfl) (fun K hK => ?_)
      go_simp
      have G := Lib.hid hHeld
      refine hK.out _ _ G.out (fun hHeld => ?_)
      clear hK K
      try simp only[pUt,pUn,sEt,sEz,sEs]
      refine wpAnyH_done (by kernel_rfl) ?_ _
      exact HT.out (fun n => ([.pointer (some ⟨qb, 0, none⟩), .pointer (some ⟨qb, 0, none⟩), .pointer (some ⟨qb, 3, none⟩), .map (some mb), evV x, nameV x.name, .tuple #[.agg #[.int .i64 pa, .int .i64 pb], .bool th], .tuple #[.agg #[.int .i64 pa, .int .i64 pb], .bool th], .agg #[.int .i64 pa, .int .i64 pb], .bool th, .pointer (some ⟨qa, 0, none⟩)] : List Value).getD n undef) _ hHeld
     ·rw [if_pos (by kernel_rfl)]
      go_simp
      clear hHeld
      have hHeld : Fr0 none' W3 W3 := Fr0.refl _ _
      obtain ⟨qa, hqa⟩ : ∃ qa, W3.heap.size = qa := ⟨_, rfl⟩
      obtain ⟨WA, hWA⟩ : ∃ W, (W3.alloc (.cells #[.int .i64 0, .int .i64 0] 161)).drew = W := ⟨_, rfl⟩
      have hbA := Lib.hid (show WA.heap[qa]? = some (.cells #[.int .i64 0, .int .i64 0] 161 (0, 0)) by rw [← hWA, ← hqa]; exact World.alloc_heap_new W3 _)
      have HQa := Lib.hid (show W3.heap.size ≤ qa by rw [← hqa]; exact hHeld.size)
      have G := Lib.hid (show Fr0 none' W3 WA by rw [← hWA]; exact (hHeld.alloc _).drew)
      rw [hWA]
      try rw [hqa]
      clear hWA hqa
      refine hK.out _ _ G.out (fun hHeld => ?_)
      clear hK K
      try simp only[pUt,pUn,sEt,sEz,sEs]
      refine take_call (i := 5) rfl (by kernel_rfl) (by kernel_rfl) (fun K hK => ?_)
      go_simp
      refine (of_any x _).mono ?_
      rintro e w5 ⟨rfl, hf5⟩
      have hbA := Lib.hid ((hf5.block qa (Array.getElem?_eq_some_iff.1 hbA.out).1 id).trans hbA.out)
      have G := Lib.hid (hHeld.trans hf5)
      refine hK.out _ _ G.out (fun hHeld => ?_)
      clear hK K
      try simp only[pUt,pUn,sEt,sEz,sEs]
      refine tkn (i := 6) (v := .tuple #[.agg #[.int .i64 pa, .int .i64 pb], .bool th]) (fun W' hSW => ?_) ?_
      ·(try dsimp only at hSW)
       first | (go_simp; done) | (have s0 := hSW.later C3.out; obtain ⟨s1, s2, s3, s4, s5⟩ := XB.out.later hSW; (try simp only [Nat.zero_add] at s1 s2 s3 s4 s5); (try simp only [evV]); go_simp; done) | (have hl := HLook.out W' hSW; go_simp; done) | exact rfl | (go_simp; rfl)
      try simp only[pUt,pUn,sEt,sEz,sEs]
      refine tkn (i := 7) (v := .tuple #[.agg #[.int .i64 pa, .int .i64 pb], .bool th]) (fun W' hSW => ?_) ?_
      ·(try dsimp only at hSW)
       first | (go_simp; done) | (have s0 := hSW.later C3.out; obtain ⟨s1, s2, s3, s4, s5⟩ := XB.out.later hSW; (try simp only [Nat.zero_add] at s1 s2 s3 s4 s5); (try simp only [evV]); go_simp; done) | (have hl := HLook.out W' hSW; go_simp; done) | exact rfl | (go_simp; rfl)
      try simp only[pUt,pUn,sEt,sEz,sEs]
      refine tkn (i := 8) (v := .agg #[.int .i64 pa, .int .i64 pb]) (fun W' hSW => ?_) ?_
      ·(try dsimp only at hSW)
       first | (go_simp; done) | (have s0 := hSW.later C3.out; obtain ⟨s1, s2, s3, s4, s5⟩ := XB.out.later hSW; (try simp only [Nat.zero_add] at s1 s2 s3 s4 s5); (try simp only [evV]); go_simp; done) | (have hl := HLook.out W' hSW; go_simp; done) | exact rfl | (go_simp; rfl)
      try simp only[pUt,pUn,sEt,sEz,sEs]
      refine tkn (i := 9) (v := .bool th) (fun W' hSW => ?_) ?_
      ·(try dsimp only at hSW)
       first | (go_simp; done) | (have s0 := hSW.later C3.out; obtain ⟨s1, s2, s3, s4, s5⟩ := XB.out.later hSW; (try simp only [Nat.zero_add] at s1 s2 s3 s4 s5); (try simp only [evV]); go_simp; done) | (have hl := HLook.out W' hSW; go_simp; done) | exact rfl | (go_simp; rfl)
      try simp only[pUt,pUn,sEt,sEz,sEs]
      refine take_call (i := 11) rfl (by kernel_rfl) (by kernel_rfl) (fun K hK => ?_)
      have r0 := cells_in hbA.out 0
      have r1 := cells_in hbA.out 1
      simp at r0 r1
      have t0 := thaw_in hbA.out 0
      have t1 := thaw_in hbA.out 1
      go_simp
      clear r0 r1 t0 t1
      have G := Lib.hid ((hHeld.setCell (b := qa) (o := 0) (fun h => absurd h (Nat.not_lt.2 HQa.out)) (.int .i64 pa)).setCell (b := qa) (o := 1) (fun h => absurd h (Nat.not_lt.2 HQa.out)) (.int .i64 pb))
      refine hK.out _ _ G.out (fun hHeld => ?_)
      clear hK K
      try simp only[pUt,pUn,sEt,sEz,sEs]
      refine take_call (i := 12) rfl (by kernel_rfl) (by kernel_rfl) (fun K hK => ?_)
      go_simp
      have G := Lib.hid hHeld
      refine hK.out _ _ G.out (fun hHeld => ?_)
      clear hK K
      try simp only[pUt,pUn,sEt,sEz,sEs]
      refine wpAnyH_done (by kernel_rfl) ?_ _
      exact HT.out (fun n => ([.pointer (some ⟨qb, 0, none⟩), .pointer (some ⟨qb, 0, none⟩), .pointer (some ⟨qb, 3, none⟩), .map (some mb), evV x, nameV x.name, .tuple #[.agg #[.int .i64 pa, .int .i64 pb], .bool th], .tuple #[.agg #[.int .i64 pa, .int .i64 pb], .bool th], .agg #[.int .i64 pa, .int .i64 pb], .bool th, .pointer (some ⟨qa, 0, none⟩)] : List Value).getD n undef) _ hHeld
   ·have hkm : k = m := by omega
    have hres := Lib.hid (show ((-1 : Int), (0 : Int)) = R by
     rw [← HR.out]
     unfold chkE
     rw [HIe.out, if_neg (by omega), dupI_none (fun i hi => hpre.out i (by rw [Hm.out] at hi; omega)), if_neg (by omega)])
    go_wp2
    go_ret2
    exact ⟨by rw [← hres.out]; rfl, hfr.out⟩
 ·rw [hi] at HI
  have hres := Lib.hid (show ((k : Int), (100 : Int)) = R by rw [← HR.out]; unfold chkE; rw [if_pos (by rw [hi]; omega), hi])
  have d1 : decide ((k : Int) ≥ 0) = true := decide_eq_true (by omega)
  have d2 : decide ((0 : Int) ≤ (k : Int)) = true := decide_eq_true (by omega)
  clear hi hkl
  go_enter Tryz.func58, Tryz.ntmps58
  go_wp2_with fail
  refine HI.out.mono ?_
  rintro e w1 ⟨rfl, hf1⟩
  go_wp2_with fail
  go_ret2
  exact ⟨by rw [← hres.out]; rfl, hf1⟩
end Go.Proofs.YtieeloealklkgaaGreat

/-
  The queue: PutAll, Put.
-/
namespace Go.Proofs.YtieeloealklkgaaGreat
open Go Go.RowKit Go.ChangeMaps
attribute [local go_sem ↓] Go.wp_at_zero Go.wp_at_succ
attribute [local go_sem] Oper.semAt_some wide_fn wide_depth wide_fnR wide_depthR
variable {w w' : World} {qb n T : Nat} {E : List Ev} {ft : Nat → Prop}

theorem QIs.foot {ft' : Nat → Prop} (h : QIs w qb n T E ft) (hs : ∀ k, ft k → ft' k) (hl : ∀ k, ft' k → k < w.heap.size) : QIs w qb n T E ft' := by
 obtain ⟨sb, pb, hb, ba, eb, mb, hv, X, F, P, first, V, h1, h2, h3, h4⟩ := h
 exact ⟨sb, pb, hb, ba, eb, mb, hv, X, F, P, first, V, h1, h2, fun k hk => hs k (h3 k hk), hl⟩
theorem qgrow_refl (h : QIs w qb n T E ft) : QIs w qb n T E (qgrow ft w w) := h.foot (fun k hk => .inl hk) (fun k hk => hk.elim (h.lt k) (fun g => g.2))
theorem qgrow_trans {a b c : World} (hab : a.heap.size ≤ b.heap.size) (hbc : b.heap.size ≤ c.heap.size) {k : Nat} (h : qgrow (qgrow ft a b) b c k) : qgrow ft a c k := by
 rcases h with (h | h) | h
 ·exact .inl h
 ·exact .inr ⟨h.1, by omega⟩
 ·exact .inr ⟨by omega, h.2⟩
theorem qgrow_lt {a b : World} (hab : a.heap.size ≤ b.heap.size) (hlt : ∀ k, ft k → k < a.heap.size) {k : Nat} (h : qgrow ft a b k) : k < b.heap.size := by
 rcases h with h | h
 ·have := hlt k h; omega
 ·exact h.2
theorem fr_grow {a b c : World} (h1 : Fr0 ft a b) (h2 : Fr0 (qgrow ft a b) b c) : Fr0 ft a c := h1.trans' h2 (fun k hk h => by
 rcases h with h | h
 ·exact h
 ·omega)
/-- Two acts, one behind the other. -/
theorem QIs.then {b c : World} {T' : Nat} {E' : List Ev} (h : QIs c qb n T' E' (qgrow (qgrow ft w b) b c)) (h1 : w.heap.size ≤ b.heap.size) (h2 : b.heap.size ≤ c.heap.size) (hlt : ∀ k, ft k → k < w.heap.size) : QIs c qb n T' E' (qgrow ft w c) :=
 h.foot (fun _ hk => qgrow_trans h1 h2 hk) (fun _ hk => qgrow_lt (Nat.le_trans h1 h2) hlt hk)
/-- A world that keeps a queue, ahead of an act. -/
theorem QIs.after {b c : World} {T' : Nat} {E' : List Ev} (h : QIs c qb n T' E' (qgrow ft b c)) (h1 : w.heap.size ≤ b.heap.size) (h2 : b.heap.size ≤ c.heap.size) (hlt : ∀ k, ft k → k < w.heap.size) : QIs c qb n T' E' (qgrow ft w c) :=
 h.foot (fun _ hk => hk.elim .inl (fun g => .inr ⟨by omega, g.2⟩)) (fun _ hk => qgrow_lt (Nat.le_trans h1 h2) hlt hk)
theorem QIs.isnt (h : QIs w qb n T E ft) : Calls Tryz.prog 57 #[.pointer (some ⟨qb, 0, none⟩)] w fun e w' => e = .returned (.bool false) ∧ w = w' := by
 obtain ⟨sb, pb, hb, ba, eb, mb, hv, X, F, P, first, V, h1, rfl, h3, h4⟩ := h
 exact qnone_is h1
theorem QIs.check (h : QIs w qb n T E ft) {a : Option Addr} {m cap : Nat} (l : List Ev) (hl : EsIn w a l) (hm : l.length = m) (hm' : m ≤ 100000) :
  Calls Tryz.prog 58 #[.pointer (some ⟨qb, 0, none⟩), .slice a m cap] w fun e w' => e = .returned (.tuple #[.int .i64 (chkE E l).1, .int .i64 (chkE E l).2]) ∧ Fr0 none' w w' := by
 obtain ⟨sb, pb, hb, ba, eb, mb, hv, X, F, P, first, V, h1, rfl, h3, h4⟩ := h
 exact Qcheck_is h1 l hl hm hm'
set_option maxHeartbeats 2000000 in
theorem QIs.putAll (h : QIs w qb n T E ft) {a : Option Addr} {m cap : Nat} (l : List Ev) (hl : EsIn w a l) (hm : l.length = m) (hm' : m ≤ 100000) (hT : T + m < 4294967295) (ha : ∀ g o s, a = some ⟨g, o, s⟩ → ¬ ft g) :
  Calls Tryz.prog 25 #[.pointer (some ⟨qb, 0, none⟩), .slice a m cap] w fun e w' => e = .returned (.tuple #[.int .i64 (allV n E l).1, .int .i64 (allV n E l).2]) ∧ QIs w' qb n (T + m) (allE n E l) (qgrow ft w w') ∧ Fr0 ft w w' := by
 obtain ⟨R, hR⟩ : ∃ R, allV n E l = R := ⟨_, rfl⟩
 have H := Lib.hid h
 have Hl := Lib.hid hl
 have Hm := Lib.hid hm
 have Ha := Lib.hid ha
 obtain ⟨C, hC⟩ : ∃ C, chkE E l = C := ⟨_, rfl⟩
 have HCk := Lib.hid (h.check l (cap := cap) hl hm hm')
 rw [hC] at HCk
 obtain ⟨ci, ce⟩ := C
 have hle := h.le
 unfold allE
 rw [hR]
 have HR := Lib.hid hR
 have HC := Lib.hid hC
 simp only at HCk
 by_cases hc0 : ce = 0
 ·subst hc0
  obtain ⟨hr, hd, hc1⟩ := chkE_ok (E := E) (l := l) (by rw [hC])
  have d0 : ((0 : Int) != 0) = false := by simp
  have HRi := Lib.hid hr
  have HD := Lib.hid hd
  by_cases hroom : n - E.length < m
  ·have hres : R = (-1, 4) := by rw [← hR]; unfold allV; rw [hC, if_neg (by simp), if_pos (by rw [hm]; exact hroom)]
   subst hres
   rw [if_neg (by simp)]
   have d1 : decide (((n - E.length : Nat) : Int) < (m : Int)) = true := decide_eq_true (by omega)
   have d2 : decide (n - E.length < m) = true := decide_eq_true hroom
   clear h hl hm ha hC hR hr hd hc1 hroom hle
   go_enter Tryz.func25, Tryz.ntmps25
   go_wp2_with fail
   refine H.out.isnt.mono ?_
   rintro e w1 ⟨rfl, rfl⟩
   go_wp2_with fail
   refine HCk.out.mono ?_
   rintro e w2 ⟨rfl, hf2⟩
   have H2 := Lib.hid (H.out.later hf2)
   have F2 := Lib.hid hf2
   clear hf2
   go_wp2_with fail
   refine H2.out.room.mono ?_
   rintro e w3 ⟨rfl, hf3⟩
   have F3 := Lib.hid (F2.out.trans hf3)
   clear hf3
   go_wp2_with fail
   go_ret2
   exact ⟨rfl, ((H.out.later F3.out).mono (Nat.le_add_right _ _)).foot (fun _ hk => .inl hk) (fun k hk => qgrow_lt F3.out.size H.out.lt hk), F3.out.mono (fun _ _ h => h.elim)⟩
  ·have hres : R = (-1, 0) := by rw [← hR]; unfold allV; rw [hC, if_neg (by simp), if_neg (by rw [hm]; exact hroom)]
   subst hres
   rw [if_pos rfl]
   have d1 : decide (((n - E.length : Nat) : Int) < (m : Int)) = false := decide_eq_false (by omega)
   have d2 : decide (n - E.length < m) = false := decide_eq_false hroom
   have Hroom := Lib.hid hroom
   have Hle := Lib.hid hle
   clear h hl hm ha hC hR hr hd hc1 hroom hle
   go_enter Tryz.func25, Tryz.ntmps25
   go_wp2_with fail
   refine H.out.isnt.mono ?_
   rintro e w1 ⟨rfl, rfl⟩
   go_wp2_with fail
   refine HCk.out.mono ?_
   rintro e w2 ⟨rfl, hf2⟩
   have H2 := Lib.hid (H.out.later hf2)
   have F2 := Lib.hid hf2
   clear hf2
   go_wp2_with fail
   refine H2.out.room.mono ?_
   rintro e w3 ⟨rfl, hf3⟩
   have F3 := Lib.hid (F2.out.trans hf3)
   clear hf3
   go_wp2_with fail
   go_loopw [9, 29] (fun _ i wr => ∃ k : Nat, k ≤ m ∧ i = .int .i64 k ∧ Hid (QIs wr qb n (T + k) (putsE (l.take k) E) (qgrow ft w wr)) ∧ Hid (Fr0 ft w wr)) (fun _ i _ => m - (Go.RowKit.intOf i).toNat)
   case atStart => exact ⟨0, Nat.zero_le _, rfl, (H.out.later F3.out).foot (fun _ hk => .inl hk) (fun k hk => qgrow_lt F3.out.size H.out.lt hk), F3.out.mono (fun _ _ h => h.elim)⟩
   case round =>
    obtain ⟨k, hk, rfl, hq, hfr⟩ := hrel
    by_cases hlt : k < m
    ·obtain ⟨x, hx⟩ : ∃ x, l[k]? = some x := ⟨_, List.getElem?_eq_getElem (by rw [Hm.out]; exact hlt)⟩
     have hlw := Hl.out.fr0 hfr.out Ha.out
     obtain ⟨g2, o, rfl, hxc⟩ := hlw k x hx
     obtain ⟨x0, x1, x2, x3, x4⟩ := hxc
     have hre := HRi.out x (List.mem_of_getElem? hx)
     have hsn : putsE (l.take (k + 1)) E = insE x (putsE (l.take k) E) := by rw [List.take_add_one, hx]; exact putsE_snoc _ _ _
     have hnm : ∀ y ∈ putsE (l.take k) E, y.name ≠ x.name := fun y hy => by
      have h2 := HD.out k (by rw [Hm.out]; exact hlt)
      unfold dupB at h2
      rw [hx] at h2
      simp only [List.any_append, Bool.or_eq_false_iff, List.any_eq_false, beq_iff_eq] at h2
      rcases putsE_mem.1 hy with hy | hy
      ·exact h2.2 y hy
      ·exact h2.1 y hy
     have hroom : (putsE (l.take k) E).length < n := by
      rw [putsE_length, List.length_take, Hm.out]
      have := Hroom.out
      have := Hle.out
      omega
     have HPt := Lib.hid (fun (W : World) (hf : Fr0 none' wr W) => (hq.out.later hf).put hre hnm (by omega) hroom)
     have Hsn := Lib.hid hsn
     have k1 : (0 : Int) ≤ (k : Int) := by omega
     have k2 : (k : Int) < (m : Int) := by omega
     clear hx hlw hre hsn hnm hroom
     unfold evV at HPt
     go_wp2_with fail
     refine (HPt.out _ ((Fr0.refl none' wr).alloc _)).mono ?_
     rintro e w5 ⟨rfl, hq5, hf5⟩
     have hs5 : wr.heap.size ≤ w5.heap.size := by have := hf5.size; rw [World.size_alloc] at this; omega
     have hq5 := Lib.hid ((hq5.after (w := wr) (by simp) hf5.size (fun k hk => hq.out.lt k hk)).then hfr.out.size hs5 H.out.lt)
     have hf5 := Lib.hid (fr_grow hfr.out (((Fr0.refl none' wr).alloc (.cells #[.int .i64 x.key.time, .int .i64 x.key.source, .int .i64 x.key.seq, .int .i64 x.to, .int .i64 x.value] 30)).mono (fun _ _ h => h.elim) |>.trans hf5))
     rw [← Hsn.out] at hq5
     clear x0 x1 x2 x3 x4
     go_wp2_with fail
     go_roundw
     case rel => exact ⟨k + 1, by omega, by go_num, hq5, hf5⟩
     case measure => simp [Go.RowKit.intOf]; omega
    ·have hkm : k = m := by omega
     subst hkm
     rw [List.take_of_length_le (by rw [Hm.out]; exact Nat.le_refl _)] at hq
     go_wp2
     go_ret2
     exact ⟨rfl, hq.out, hfr.out⟩
 ·have hres : R = (ci, ce) := by rw [← hR]; unfold allV; rw [hC, if_pos hc0]
  subst hres
  rw [if_neg hc0]
  have d0 : (ce != 0) = true := by simpa using hc0
  clear h hl hm ha hC hR hle hc0
  go_enter Tryz.func25, Tryz.ntmps25
  go_wp2_with fail
  refine H.out.isnt.mono ?_
  rintro e w1 ⟨rfl, rfl⟩
  go_wp2_with fail
  refine HCk.out.mono ?_
  rintro e w2 ⟨rfl, hf2⟩
  go_wp2_with fail
  go_ret2
  exact ⟨rfl, ((H.out.later hf2).mono (Nat.le_add_right _ _)).foot (fun _ hk => .inl hk) (fun k hk => qgrow_lt hf2.size H.out.lt hk), hf2.mono (fun _ _ h => h.elim)⟩
set_option maxHeartbeats 2000000 in
theorem QIs.put1 (h : QIs w qb n T E ft) (x : Ev) (hT : T + 1 < 4294967295) :
  Calls Tryz.prog 27 #[.pointer (some ⟨qb, 0, none⟩), evV x] w fun e w' => e = .returned (.int .i64 (allV n E [x]).2) ∧ QIs w' qb n (T + 1) (allE n E [x]) (qgrow ft w w') ∧ Fr0 ft w w' := by
 have H := Lib.hid h
 obtain ⟨R, hR⟩ : ∃ R, allV n E [x] = R := ⟨_, rfl⟩
 obtain ⟨E', hE'⟩ : ∃ E', allE n E [x] = E' := ⟨_, rfl⟩
 rw [hR, hE']
 have HR := Lib.hid hR
 have HE := Lib.hid hE'
 clear h hR hE'
 unfold evV
 go_enter Tryz.func27, Tryz.ntmps27
 go_wp2_with fail
 obtain ⟨W1, hW1⟩ : ∃ W, ((w.alloc (.cells #[.int .i64 x.key.time, .int .i64 x.key.source, .int .i64 x.key.seq, .int .i64 x.to, .int .i64 x.value] 30)).alloc (.cells #[.int .i64 x.key.time, .int .i64 x.key.source, .int .i64 x.key.seq, .int .i64 x.to, .int .i64 x.value] 30)) = W := ⟨_, rfl⟩
 have f1 : Fr0 none' w W1 := by rw [← hW1]; exact ((Fr0.refl _ _).alloc _).alloc _
 have hl1 : EsIn W1 (some ⟨w.heap.size + 1, 0, none⟩) [x] := by
  rw [← hW1]
  have := World.alloc_heap_new (w.alloc (.cells #[.int .i64 x.key.time, .int .i64 x.key.source, .int .i64 x.key.seq, .int .i64 x.to, .int .i64 x.value] 30)) (.cells #[.int .i64 x.key.time, .int .i64 x.key.source, .int .i64 x.key.seq, .int .i64 x.to, .int .i64 x.value] 30)
  rw [World.size_alloc] at this
  exact EsIn.of_cells (n := 1) this (by simp [flatEv, cev])
 rw [hW1]
 refine ((H.out.later f1).putAll (m := 1) (cap := 1) [x] hl1 rfl (by omega) hT (fun g o s e => by
  have e1 : w.heap.size + 1 = g := by injection e with e; injection e
  intro hg
  have := H.out.lt g hg
  omega)).mono ?_
 rintro e w2 ⟨rfl, hq2, hf2⟩
 rw [HE.out] at hq2
 rw [HR.out]
 have hq2 := Lib.hid (hq2.after f1.size hf2.size H.out.lt)
 have hf2 := Lib.hid ((f1.mono (fun _ _ h => h.elim)).trans hf2)
 clear hW1 f1 hl1
 go_wp2_with fail
 go_ret
 exact ⟨rfl, hq2.out, hf2.out⟩
end Go.Proofs.YtieeloealklkgaaGreat

/-
  The queue: TakeBefore, Clear.
-/
namespace Go.Proofs.YtieeloealklkgaaGreat
open Go Go.RowKit Go.ChangeMaps
attribute [local go_sem ↓] Go.wp_at_zero Go.wp_at_succ
attribute [local go_sem] Oper.semAt_some wide_fn wide_depth wide_fnR wide_depthR
variable {w w' : World} {qb n T : Nat} {E : List Ev} {ft : Nat → Prop}

set_option maxHeartbeats 2000000 in
theorem QIs.clear (h : QIs w qb n T E ft) (hT : T < 4294967296) :
  Calls Tryz.prog 154 #[.pointer (some ⟨qb, 0, none⟩)] w fun e w' => e = .returned (.tuple #[.int .i64 (E.length : Nat), .int .i64 0]) ∧ QIs w' qb n T [] (qgrow ft w w') ∧ Fr0 ft w w' := by
 have H := Lib.hid h
 obtain ⟨m, hm⟩ : ∃ m, E.length = m := ⟨_, rfl⟩
 have HL := Lib.hid h.len
 rw [hm] at HL ⊢
 have Hm := Lib.hid hm
 have hm' : m ≤ 256 := by have := h.le; omega
 clear h hm
 go_enter Tryz.func154, Tryz.ntmps154
 go_wp2_with fail
 refine H.out.isnt.mono ?_
 rintro e w1 ⟨rfl, rfl⟩
 go_wp2_with fail
 refine HL.out.mono ?_
 rintro e w1 ⟨rfl, rfl⟩
 go_wp2_with fail
 go_loopw [10] (fun i wr => ∃ k : Nat, k ≤ m ∧ i = .int .i64 k ∧ Hid (QIs wr qb n T (E.drop k) (qgrow ft w wr)) ∧ Hid (Fr0 ft w wr)) (fun i _ => m - (Go.RowKit.intOf i).toNat)
 case atStart => exact ⟨0, Nat.zero_le _, rfl, qgrow_refl H.out, Fr0.refl _ _⟩
 case round =>
  obtain ⟨k, hk, rfl, hq, hfr⟩ := hrel
  by_cases hlt : k < m
  ·have k1 : (0 : Int) ≤ (k : Int) := by omega
   have k2 : (k : Int) < (m : Int) := by omega
   go_wp2_with fail
   refine (hq.out.take hT).mono ?_
   rintro e w5 ⟨rfl, hq5, hf5⟩
   rw [List.tail_drop] at hq5
   have hq5 := Lib.hid (hq5.then hfr.out.size hf5.size H.out.lt)
   have hf5 := Lib.hid (fr_grow hfr.out hf5)
   go_wp2_with fail
   go_roundw
   case rel => exact ⟨k + 1, by omega, by go_num, hq5, hf5⟩
   case measure => simp [Go.RowKit.intOf]; omega
  ·have hkm : k = m := by omega
   subst hkm
   rw [List.drop_of_length_le (by rw [Hm.out]; exact Nat.le_refl _)] at hq
   go_wp2
   go_ret2
   exact ⟨rfl, hq.out, hfr.out⟩
/-- What TakeBefore leaves. -/
def BefPost (w : World) (qb n T : Nat) (E : List Ev) (ft : Nat → Prop) (t : Int) (e : Ending) (w' : World) : Prop :=
 ∃ v ft', e = .returned v ∧ w'.ownsRow w.heap.size 30 5 v (befE t E).length (flatEv (befE t E)) ∧ QIs w' qb n T (aftE t E) ft' ∧ (∀ k, ft' k → ft k ∨ w.heap.size ≤ k) ∧ (∀ g, v.ownBlock = some g → ¬ ft' g) ∧ Fr0 ft w w'
set_option maxHeartbeats 2000000 in
theorem QIs.takeBefore (h : QIs w qb n T E ft) (t : Int) (hT : T < 4294967296) :
  Calls Tryz.prog 157 #[.pointer (some ⟨qb, 0, none⟩), .int .i64 t] w (BefPost w qb n T E ft t) := by
 have H := Lib.hid h
 have HLe := Lib.hid h.least
 have HE := Lib.hid h.le
 clear h
 obtain ⟨i0, hi, hz0, hz1, hz2⟩ := info_parts info_event0
 go_enter Tryz.func157, Tryz.ntmps157
 go_wp2_with fail
 refine HLe.out.mono ?_
 rintro e w1 ⟨rfl, hf1⟩
 obtain ⟨x0, hx0⟩ : ∃ x0, lstE E = x0 := ⟨_, rfl⟩
 obtain ⟨b0, hb0⟩ : ∃ b0, (!E.isEmpty) = b0 := ⟨_, rfl⟩
 rw [hx0, hb0]
 simp only [evV]
 have Hx0 := Lib.hid hx0
 have Hb0 := Lib.hid hb0
 clear hx0 hb0
 go_wp2_with fail
 obtain ⟨q0, hq0⟩ : ∃ q0, w1.heap.size = q0 := ⟨_, rfl⟩
 obtain ⟨W2, hW2⟩ : ∃ W, w1.alloc (.cells #[.int .i64 x0.key.time, .int .i64 x0.key.source, .int .i64 x0.key.seq, .int .i64 x0.to, .int .i64 x0.value] 30) = W := ⟨_, rfl⟩
 have hb2 := Lib.hid (show W2.heap[q0]? = some (.cells #[.int .i64 x0.key.time, .int .i64 x0.key.source, .int .i64 x0.key.seq, .int .i64 x0.to, .int .i64 x0.value] 30 (0, 0)) by rw [← hW2, ← hq0]; exact World.alloc_heap_new w1 _)
 have F2 := Lib.hid (show Fr0 none' w W2 by rw [← hW2]; exact hf1.alloc _)
 have Hq0 := Lib.hid (show w.heap.size ≤ q0 by rw [← hq0]; exact hf1.size)
 rw [hW2]
 try rw [hq0]
 clear hW2 hq0 hf1
 go_loopw [5, 6, 7] (fun v p b wr => ∃ (k q : Nat) (x : Ev) (fk : Nat → Prop) (bo : Bool), p = .pointer (some ⟨q, 0, none⟩) ∧ b = .bool bo ∧ k ≤ E.length ∧ Hid (lstE (E.drop k) = x ∧ (!(E.drop k).isEmpty) = bo) ∧
  Hid (wr.heap[q]? = some (.cells #[.int .i64 x.key.time, .int .i64 x.key.source, .int .i64 x.key.seq, .int .i64 x.to, .int .i64 x.value] 30 (0, 0))) ∧ Hid (wr.ownsRow w.heap.size 30 5 v k (flatEv (E.take k))) ∧ Hid (∀ y ∈ E.take k, y.key.time < t) ∧
  Hid (QIs wr qb n T (E.drop k) fk) ∧ Hid ((∀ k, fk k → ft k ∨ w.heap.size ≤ k) ∧ ¬ fk q ∧ w.heap.size ≤ q ∧ ∀ g, v.ownBlock = some g → ¬ fk g ∧ g ≠ q) ∧ Hid (Fr0 ft w wr)) (fun v _ _ _ => E.length - (match v with | .slice _ j _ => j | _ => 0))
 case atStart =>
  exact ⟨0, q0, x0, ft, b0, rfl, rfl, Nat.zero_le _, ⟨Hx0.out, Hb0.out⟩, hb2, World.ownsRow_nil _ _ _ _, by unfold Hid; simp, H.out.later F2.out, ⟨fun _ h => .inl h, fun h => by have := H.out.lt _ h; have := Hq0.out; omega, Hq0.out, fun g hg => by cases hg⟩, F2.out.mono (fun _ _ h => h.elim)⟩
 case round =>
  obtain ⟨k, q, x, fk, bo, rfl, rfl, hk, hx, hbq, hrow, hpre, hq, hdis, hfr⟩ := hrel
  obtain ⟨va, vc, rfl, _, _⟩ := EsIn.of_own hrow.out
  by_cases hlt : k < E.length
  ·obtain ⟨y, hy⟩ : ∃ y, E[k]? = some y := ⟨_, List.getElem?_eq_getElem hlt⟩
   have hdr : E.drop k = y :: E.drop (k + 1) := by
    rw [List.drop_eq_getElem_cons hlt]
    congr 1
    rw [List.getElem?_eq_getElem hlt] at hy
    exact Option.some.inj hy
   have hxy : y = x := by have := hx.out.1; rw [hdr] at this; exact this
   have hbo : true = bo := by have := hx.out.2; rw [hdr] at this; exact this
   subst hxy
   subst hbo
   have Hy := Lib.hid hy
   have Hdr := Lib.hid hdr
   clear hy hdr hx
   have x0 := cells_in hbq.out 0
   simp at x0
   by_cases ht : y.key.time < t
   ·have d1 : decide (y.key.time < t) = true := decide_eq_true ht
    have Ht := Lib.hid ht
    clear ht
    go_wp2_with fail
    refine (hq.out.take hT).mono ?_
    rintro e w5 ⟨rfl, hq5, hf5⟩
    have hb5 := Lib.hid ((hf5.block q (Array.getElem?_eq_some_iff.1 hbq.out).1 hdis.out.2.1).trans hbq.out)
    have hr5 := Lib.hid (ownsRow_fr0 hrow.out hf5 (fun g hg => (hdis.out.2.2.2 g hg).1))
    have hq5 := Lib.hid hq5
    have F5 := Lib.hid hf5
    have Fw5 := Lib.hid (hfr.out.trans' hf5 (fun i hi hs => (hdis.out.1 i hs).elim id (fun h => by omega)))
    clear x0 d1 hf5
    have x0 := cells_in hb5.out 0
    have x1 := cells_in hb5.out 1
    have x2 := cells_in hb5.out 2
    have x3 := cells_in hb5.out 3
    have x4 := cells_in hb5.out 4
    simp at x0 x1 x2 x3 x4
    have hsrc := Src.newRow (P := Tryz.prog) (size := 5) (tx := 22) (ty := 30) w5 Tryz.underlying22 1 1 (cev y) rfl (by simp [Value.oneCell', cev])
    simp only [cev] at hsrc
    have hbase : w.heap.size ≤ w5.heap.size := Fw5.out.size
    have hkn : k ≤ 256 := by have := HE.out; omega
    go_wp2_with (at_builtin; refine wpList_append_k rfl _ _ 22 22 rfl w.heap.size 30 i0 (.agg #[.int .i64 0, .int .i64 0, .int .i64 0, .int .i64 0, .int .i64 0]) 5 40 Tryz.underlying22 hi hz0 hz1 hz2 rfl (by decide) (.slice va k vc) k _ rfl (ownsRow_fr0 hr5.out ((Fr0.refl none' w5).alloc _) (fun _ _ h => h)) (.slice (some ⟨w5.heap.size, 0, none⟩) 1 1) 1 _ rfl hsrc (by unfold maxLen; omega) (by omega) (by simp; omega) ?_; intro v6 w6 hown hgrow hdr hob; have Hown := Lib.hid hown; have Hgr := Lib.hid hgrow; have Hob := Lib.hid hob; have hfg : Fr0 (fun i => (Value.slice va k vc).ownBlock = some i) w5 w6 := ((Fr0.refl _ w5).alloc _).grown hgrow (fun i hi _ => hi); have hb6 := (hfg.block q (Array.getElem?_eq_some_iff.1 hb5.out).1 (fun e => (hdis.out.2.2.2 q e).2 rfl)).trans hb5.out; have F6 := Lib.hid hfg; have Hb6 := Lib.hid hb6; clear hown hgrow hdr hob x0 x1 x2 x3 x4 hfg hsrc; have x0 := cells_in hb6 0; have x1 := cells_in hb6 1; have x2 := cells_in hb6 2; have x3 := cells_in hb6 3; have x4 := cells_in hb6 4; simp at x0 x1 x2 x3 x4; clear hb6)
    clear x0 x1 x2 x3 x4
    obtain ⟨q6, hq6⟩ : ∃ q6, w6.heap.size = q6 := ⟨_, rfl⟩
    obtain ⟨W7, hW7⟩ : ∃ W, w6.alloc (.cells #[.int .i64 y.key.time, .int .i64 y.key.source, .int .i64 y.key.seq, .int .i64 y.to, .int .i64 y.value] 30) = W := ⟨_, rfl⟩
    have hb7 := Lib.hid (show W7.heap[q6]? = some (.cells #[.int .i64 y.key.time, .int .i64 y.key.source, .int .i64 y.key.seq, .int .i64 y.to, .int .i64 y.value] 30 (0, 0)) by rw [← hW7, ← hq6]; exact World.alloc_heap_new w6 _)
    have F7 := Lib.hid (show Fr0 none' w6 W7 by rw [← hW7]; exact (Fr0.refl _ _).alloc _)
    rw [hW7]
    try rw [hq6]
    have Hq6 := Lib.hid hq6
    clear hW7 hq6
    have hq57 : ∀ g, (Value.slice va k vc).ownBlock = some g → ¬ qgrow fk wr w5 g := fun g hg hh => by
     have h1 := hrow.out.lt g hg
     rcases hh with hh | hh
     ·exact (hdis.out.2.2.2 g hg).1 hh
     ·omega
    have HQ7 := Lib.hid ((hq5.out.fr0 F6.out (fun j hj hs => hq57 j hs hj)).later F7.out)
    refine HQ7.out.least.mono ?_
    rintro e w8 ⟨rfl, hf8⟩
    rw [List.tail_drop] at HQ7 ⊢
    obtain ⟨z, hz⟩ : ∃ z, lstE (E.drop (k + 1)) = z := ⟨_, rfl⟩
    obtain ⟨b2, hb2⟩ : ∃ b2, (!(E.drop (k + 1)).isEmpty) = b2 := ⟨_, rfl⟩
    rw [hz, hb2]
    have HZ := Lib.hid (show lstE (E.drop (k + 1)) = z ∧ (!(E.drop (k + 1)).isEmpty) = b2 from ⟨hz, hb2⟩)
    have hb8 := Lib.hid ((hf8.block q6 (Array.getElem?_eq_some_iff.1 hb7.out).1 id).trans hb7.out)
    have F68 := Lib.hid (F7.out.trans hf8)
    have HQ8 := Lib.hid (HQ7.out.later hf8)
    have Hq57 := Lib.hid hq57
    clear hz hb2 hf8 hq57
    simp only [evV]
    have y0 := cells_in hb8.out 0
    have y1 := cells_in hb8.out 1
    have y2 := cells_in hb8.out 2
    have y3 := cells_in hb8.out 3
    have y4 := cells_in hb8.out 4
    simp at y0 y1 y2 y3 y4
    have t0 := thaw_in hb8.out 0
    have t1 := thaw_in hb8.out 1
    have t2 := thaw_in hb8.out 2
    have t3 := thaw_in hb8.out 3
    have t4 := thaw_in hb8.out 4
    go_wp2_with fail
    obtain ⟨W9, hW9⟩ : ∃ W, (((((w8.setCell ⟨q6, 0, none⟩ (.int .i64 z.key.time)).setCell ⟨q6, 1, none⟩ (.int .i64 z.key.source)).setCell ⟨q6, 2, none⟩ (.int .i64 z.key.seq)).setCell ⟨q6, 3, none⟩ (.int .i64 z.to)).setCell ⟨q6, 4, none⟩ (.int .i64 z.value)) = W := ⟨_, rfl⟩
    try rw [hW9]
    have e9 := Lib.hid (show W9.heap[q6]? = some (.cells #[.int .i64 z.key.time, .int .i64 z.key.source, .int .i64 z.key.seq, .int .i64 z.to, .int .i64 z.value] 30 (0, 0)) by rw [← hW9]; exact ev_set5 hb8.out _ _ _ _ _)
    have f89 : Fr0 (fun j => j = q6) w8 W9 := by rw [← hW9]; exact (((((Fr0.refl (fun j => j = q6) w8).setCell (fun _ => rfl) _).setCell (fun _ => rfl) _).setCell (fun _ => rfl) _).setCell (fun _ => rfl) _).setCell (fun _ => rfl) _
    have hs5 : wr.heap.size ≤ w5.heap.size := F5.out.size
    have hs6 : w5.heap.size ≤ q6 := by rw [← Hq6.out]; exact F6.out.size
    have hsr : w.heap.size ≤ wr.heap.size := hfr.out.size
    have hfk : ∀ j, qgrow fk wr w5 j → j < w5.heap.size := fun j hj => qgrow_lt hs5 hq.out.lt hj
    have hv6 : ∀ g, v6.ownBlock = some g → ¬ qgrow fk wr w5 g ∧ g ≠ q6 := fun g hg => by
     have hl6 := (Hown.out.lt g hg).2
     refine ⟨fun hh => ?_, by rw [← Hq6.out]; omega⟩
     rcases Hob.out with hob | hob
     ·exact Hq57.out g (by rw [← hob]; exact hg) hh
     ·rw [hg] at hob
      injection hob with hob
      have := hfk g hh
      rw [World.size_alloc] at hob
      omega
    have hrow9 : W9.ownsRow w.heap.size 30 5 v6 (k + 1) (flatEv (E.take (k + 1))) := by
     have h1 := Hown.out
     rw [show [Value.int IntKind.i64 y.key.time, Value.int IntKind.i64 y.key.source, Value.int IntKind.i64 y.key.seq, Value.int IntKind.i64 y.to, Value.int IntKind.i64 y.value] = cev y from rfl, ← flatEv_snoc, show E.take k ++ [y] = E.take (k + 1) by rw [List.take_add_one, Hy.out]; rfl] at h1
     exact ownsRow_fr0 (ownsRow_fr0 h1 F68.out (fun _ _ h => h)) f89 (fun g hg => (hv6 g hg).2)
    have hQ9 : QIs W9 qb n T (E.drop (k + 1)) (qgrow fk wr w5) := HQ8.out.fr0 f89 (fun j hj e => by have := hfk j hj; omega)
    have hfr9 : Fr0 ft w W9 := by
     have g1 := Fw5.out.trans' F6.out (fun j hj hs => absurd (hr5.out.lt j hs).1 (Nat.not_le.2 hj))
     exact (g1.trans' F68.out (fun _ _ h => h.elim)).trans' f89 (fun j hj e => by omega)
    have hpre9 : ∀ u ∈ E.take (k + 1), u.key.time < t := fun u hu => by
     rw [List.take_add_one, Hy.out, List.mem_append] at hu
     rcases hu with hu | hu
     ·exact hpre.out u hu
     ·simp at hu; subst hu; exact Ht.out
    have hkl : k + 1 ≤ E.length := (List.getElem?_eq_some_iff.1 Hy.out).1
    obtain ⟨v6a, v6c, rfl, _, _⟩ := EsIn.of_own hrow9
    have R1 := Lib.hid hrow9
    have R2 := Lib.hid hQ9
    have R3 := Lib.hid hfr9
    have R4 := Lib.hid hpre9
    have R5 := Lib.hid (show (∀ j, qgrow fk wr w5 j → ft j ∨ w.heap.size ≤ j) ∧ ¬ qgrow fk wr w5 q6 ∧ w.heap.size ≤ q6 ∧ ∀ g, (Value.slice v6a (k + 1) v6c).ownBlock = some g → ¬ qgrow fk wr w5 g ∧ g ≠ q6 from ⟨fun j hj => by
     rcases hj with hj | hj
     ·exact hdis.out.1 j hj
     ·exact .inr (by omega), fun hh => by have := hfk q6 hh; omega, by omega, hv6⟩)
    clear hrow9 hQ9 hfr9 hpre9 hv6 f89 hW9 y0 y1 y2 y3 y4 t0 t1 t2 t3 t4 hfk
    go_roundw
    case rel => exact ⟨k + 1, q6, z, qgrow fk wr w5, b2, rfl, rfl, hkl, HZ, e9, R1, R4, R2, R5, R3⟩
    case measure => simp; omega
   ·have d1 : decide (y.key.time < t) = false := decide_eq_false ht
    obtain ⟨e1, e2⟩ := bef_cut H.out.good.1 (t := t) (k := k) hpre.out (fun u hu => by rw [Hy.out] at hu; cases hu; exact ht)
    have hl : (E.take k).length = k := by rw [List.length_take]; omega
    have R := Lib.hid (show BefPost w qb n T E ft t (.returned (.slice va k vc)) wr from ⟨_, fk, rfl, by rw [e1, hl]; exact hrow.out, by rw [e2]; exact hq.out, hdis.out.1, fun g hg => (hdis.out.2.2.2 g hg).1, hfr.out⟩)
    clear ht e1 e2 hl
    go_wp2_with fail
    go_ret
    exact R.out
  ·have hnone : E[k]? = none := List.getElem?_eq_none (by omega)
   have hdr : E.drop k = [] := List.drop_eq_nil_of_le (by omega)
   have hbo : false = bo := by have := hx.out.2; rw [hdr] at this; exact this
   subst hbo
   obtain ⟨e1, e2⟩ := bef_cut H.out.good.1 (t := t) (k := k) hpre.out (fun u hu => by rw [hnone] at hu; cases hu)
   have hl : (E.take k).length = k := by rw [List.length_take]; omega
   have R := Lib.hid (show BefPost w qb n T E ft t (.returned (.slice va k vc)) wr from ⟨_, fk, rfl, by rw [e1, hl]; exact hrow.out, by rw [e2]; exact hq.out, hdis.out.1, fun g hg => (hdis.out.2.2.2 g hg).1, hfr.out⟩)
   clear e1 e2 hl hnone hdr hx
   go_wp2_with fail
   go_ret
   exact R.out
end Go.Proofs.YtieeloealklkgaaGreat

/-
  The queue: Copy.
-/
namespace Go.Proofs.YtieeloealklkgaaGreat
open Go Go.RowKit Go.ChangeMaps
attribute [local go_sem ↓] Go.wp_at_zero Go.wp_at_succ
attribute [local go_sem] Oper.semAt_some wide_fn wide_depth wide_fnR wide_depthR
variable {w w' : World} {qb n T : Nat} {E : List Ev} {ft : Nat → Prop}

theorem QIs.ordered (h : QIs w qb n T E ft) (cb : Nat) (hbx : Box w cb (.pointer (some ⟨qb, 0, none⟩))) :
  ∃ rd : Nat → Prop, IterX0 Tryz.prog 75 #[.pointer (some ⟨cb, 0, none⟩)] (fun x : Ev => #[evV x]) E none' rd w ∧ ∀ k, rd k → k = cb ∨ ft k := by
 obtain ⟨sb, pb, hb, ba, eb, mb, hv, X, F, P, first, V, h1, rfl, h3, h4⟩ := h
 exact ⟨_, ordered_iter h1 cb hbx, fun k hk => hk.imp id (h3 k)⟩
theorem QIs.evs (h : QIs w qb n T E ft) : ∃ eb, w.cell? ⟨qb, 2, none⟩ = some (.slice (some ⟨eb, 0, none⟩) n n) ∧ ft qb := by
 obtain ⟨sb, pb, hb, ba, eb, mb, hv, X, F, P, first, V, h1, rfl, h3, h4⟩ := h
 exact ⟨eb, h1.c2, h3 _ (.inl rfl)⟩
theorem take_puts {E : List Ev} (h : AscE E) (ho : OnceE E) (k : Nat) : putsE (E.take k) [] = E.take k := asc_puts (asc_sub h (List.take_sublist _ _)) (once_sub ho (List.take_sublist _ _))
set_option maxHeartbeats 2000000 in
theorem QCopy_in (h : QIs w qb n T E ft) : CallsIn Fence.wide 0 Tryz.prog 39 #[.pointer (some ⟨qb, 0, none⟩)] w fun e w' => ∃ cb ft', e = .returned (.tuple #[.pointer (some ⟨cb, 0, none⟩), .int .i64 0]) ∧ QIs w' cb n E.length E ft' ∧ (∀ k, ft' k → w.heap.size ≤ k) ∧ Fr0 none' w w' := by
 have H := Lib.hid h
 have HG := Lib.hid h.good
 have HE := Lib.hid h.le
 clear h
 refine callsIn_of_wp_marks Tryz.func39 rfl trivial ?_ rfl
 simp only [Tryz.ntmps39, List.size_toArray, List.length_cons, List.length_nil, Nat.reduceAdd, Nat.reduceSub, Array.replicate_succ, Array.replicate_zero, List.push_toArray, List.append_toArray, List.nil_append, List.cons_append]
 gi_wp2_with fail
 refine (callsIn_wide.2 H.out.isnt).mono ?_
 rintro e w1 ⟨rfl, rfl⟩
 obtain ⟨eb, c2, hfq⟩ := H.out.evs
 gi_wp2_with fail
 clear c2
 refine (callsIn_wide.2 (QNew_is n HE.out.2 _)).mono ?_
 rintro e w2 ⟨qc, ftc, rfl, hq2, f2, hge⟩
 have HQ2 := Lib.hid hq2
 have F2 := Lib.hid f2
 have Hge := Lib.hid hge
 clear hq2 f2 hge
 gi_wp2_with fail
 obtain ⟨N0, hN0⟩ : ∃ N0, w2.heap.size = N0 := ⟨_, rfl⟩
 obtain ⟨W3, hW3⟩ : ∃ W, w2.alloc (.cells #[.pointer (some ⟨qc, 0, none⟩)] 37) = W := ⟨_, rfl⟩
 have Bc3 := Lib.hid (show Box W3 N0 (.pointer (some ⟨qc, 0, none⟩)) by rw [← hW3, ← hN0]; exact Box.new _ _ _)
 have F23 := Lib.hid (show Fr0 none' w2 W3 by rw [← hW3]; exact (Fr0.refl _ _).alloc _)
 have Hs3 := Lib.hid (show W3.heap.size = N0 + 1 by rw [← hW3, World.size_alloc, hN0])
 rw [hW3]
 try rw [hN0]
 have HN0 := Lib.hid hN0
 clear hW3 hN0
 refine (callsIn_wide.2 (ordered_any qb W3)).mono ?_
 rintro e w4 ⟨rfl, hw4⟩
 rw [Hs3.out]
 obtain ⟨W4, hW4⟩ : ∃ W, W3.alloc (.cells #[.pointer (some ⟨qb, 0, none⟩)] 37) = W := ⟨_, rfl⟩
 rw [hW4] at hw4
 subst hw4
 have F34 := Lib.hid (show Fr0 none' W3 w4 by rw [← hW4]; exact (Fr0.refl _ _).alloc _)
 have Bq4 := Lib.hid (show Box w4 (N0 + 1) (.pointer (some ⟨qb, 0, none⟩)) by rw [← hW4, ← Hs3.out]; exact Box.new _ _ _)
 have Hs4 := Lib.hid (show w4.heap.size = N0 + 2 by rw [← hW4, World.size_alloc, Hs3.out])
 have F4 := Lib.hid (show Fr0 none' w w4 from (F2.out.trans F23.out).trans F34.out)
 have H4 := Lib.hid (H.out.later F4.out)
 have HQ4 := Lib.hid (HQ2.out.later (F23.out.trans F34.out))
 have Bc4 := Lib.hid (Bc3.out.fr0 F34.out id)
 clear hW4
 obtain ⟨rd, it, hrd⟩ := H4.out.ordered (N0 + 1) Bq4.out
 have Hrd := Lib.hid hrd
 clear hrd
 gi_wp2_with fail
 have hN2 : w.heap.size ≤ N0 := by have := F2.out.size; have := HN0.out; omega
 have HN2 := Lib.hid hN2
 have hlf := H.out.lt
 refine wpIn_iterS0 (σ := Nat → Prop) (gf := 75) (lb := #[.pointer (some ⟨N0 + 1, 0, none⟩)]) rfl (by intro args w; rfl) it (Keep.refl _ _) (fun _ => rfl) (fun k hk => hk.elim) (fun k hk => by
   rw [Hs4.out]
   rcases Hrd.out k hk with rfl | h
   ·omega
   ·have := hlf k h; omega)
  (fun i s W => QIs W qc n i (E.take i) s ∧ Box W N0 (.pointer (some ⟨qc, 0, none⟩)) ∧ (∀ k, s k → w.heap.size ≤ k ∧ k ≠ N0 ∧ k ≠ N0 + 1) ∧ Fr0 none' w W) (fun s k => s k ∨ k = N0) (fun _ _ => False) ?hInv ?hlt (fun _ _ _ h _ => h.elim) ftc ?h0 ?hf0
  (fun x W a' => ∃ B, a' = { tmps := #[.pointer (some ⟨qb, 0, none⟩), undef, .pointer none, .int .i64 0, .pointer (some ⟨N0, 0, none⟩), .int .i64 0, .pointer (some ⟨B, 0, none⟩), .pointer (some ⟨qb, 0, none⟩), .bool false, .tuple #[.pointer (some ⟨qc, 0, none⟩), .int .i64 0], .pointer (some ⟨qb, 0, none⟩), .pointer (some ⟨qb, 0, none⟩), .pointer (some ⟨qb, 2, none⟩), .slice (some ⟨eb, 0, none⟩) n n, .int .i64 n, .tuple #[.pointer (some ⟨qc, 0, none⟩), .int .i64 0], .pointer (some ⟨qc, 0, none⟩), .int .i64 0, .int .i64 0, .bool false, undef, .pointer (some ⟨qb, 0, none⟩), .func (.func 75) #[] #[.pointer (some ⟨N0 + 1, 0, none⟩)], evV x, undef, undef, undef, undef], defers := [] } ∧ N0 + 3 < B ∧ W.heap[B]? = some (.cells (cev x).toArray 30 (0, 0)))
  ?assign ?keep ?body ?done (fun _ _ _ _ h _ => h.elim)
 case hInv =>
  rintro i s W1 W2 ⟨h1, h2, h3, h4⟩ hf
  rw [Hs4.out] at hf
  refine ⟨h1.fr0 hf (fun k hk hs => hs.2 (.inl hk)), h2.fr0 hf (fun hs => hs.2 (.inr rfl)), h3, h4.trans' hf (fun k hk hs => ?_)⟩
  rcases hs.1 with h | h
  ·exact h
  ·have := HN2.out; omega
 case hlt =>
  rintro i s W k ⟨h1, h2, h3, h4⟩ (hk | rfl)
  ·exact h1.lt k hk
  ·exact h2.lt
 case h0 =>
  refine ⟨HQ4.out, Bc4.out, fun k hk => ⟨Hge.out k hk, ?_⟩, F4.out⟩
  have := HQ2.out.lt k hk
  have := HN0.out
  omega
 case hf0 =>
  rintro k hk
  refine ⟨id, fun hr => ?_⟩
  have h1 : k ≠ N0 + 1 ∧ w.heap.size ≤ k := by
   rcases hk with hk | rfl
   ·have := HQ2.out.lt k hk
    have := HN0.out
    exact ⟨by omega, Hge.out k hk⟩
   ·exact ⟨by omega, HN2.out⟩
  rcases Hrd.out k hr with h | h
  ·exact h1.1 h
  ·have := hlf k h; omega
 case assign =>
  intro l x W K hlt hK
  rw [Hs4.out] at hlt
  simp only [evV]
  gi_wp2
  exact hK _ _ ⟨W.heap.size, by simp [evV], by omega, World.alloc_heap_new W _⟩ ((Fr0.refl _ _).alloc _)
 case keep =>
  rintro x W4 W5 a' ⟨B, rfl, hB, hc⟩ hf
  exact ⟨B, rfl, hB, (hf.block B (Array.getElem?_eq_some_iff.1 hc).1 (by rw [Hs4.out]; omega)).trans hc⟩
 case body =>
  rintro l i x s W a' hxi ⟨h1, h2, h3, h4⟩ hfoot hsz ⟨B, rfl, hB, hcB⟩
  have hlt : i < E.length := (List.getElem?_eq_some_iff.1 hxi).1
  have b0 := cells_in hcB 0
  have b1 := cells_in hcB 1
  have b2 := cells_in hcB 2
  have b3 := cells_in hcB 3
  have b4 := cells_in hcB 4
  simp [cev] at b0 b1 b2 b3 b4
  have cN := h2.cell
  have hsn : E.take (i + 1) = insE x (E.take i) := by
   rw [← take_puts HG.out.1 HG.out.2.1 (i + 1), List.take_add_one, hxi]
   show putsE (E.take i ++ [x]) [] = _
   rw [putsE_snoc, take_puts HG.out.1 HG.out.2.1 i]
  have hnm : ∀ y ∈ E.take i, y.name ≠ x.name := fun y hy e => by
   have h5 : OnceE (E.take (i + 1)) := once_sub HG.out.2.1 (List.take_sublist _ _)
   rw [List.take_add_one, hxi] at h5
   have h6 := OnceE.perm h5 List.perm_append_comm
   exact (once_cons.1 h6).1 y hy e
  have hre := HG.out.2.2 x (List.mem_of_getElem? hxi)
  have HPt := Lib.hid (h1.put hre hnm (by have := HE.out; omega) (by rw [List.length_take]; have := HE.out; omega))
  have Hsn := Lib.hid hsn
  have H1 := Lib.hid h1
  have H2 := Lib.hid h2
  have H3 := Lib.hid h3
  have H4' := Lib.hid h4
  have Hsz := Lib.hid hsz
  unfold evV at HPt
  clear hxi hfoot hsz hcB h1 h2 h3 h4 hsn hnm hre
  simp only [evV]
  gi_wp2_with fail
  refine (callsIn_wide.2 HPt.out).mono ?_
  rintro e w5 ⟨rfl, hq5, hf5⟩
  gi_wp2_with fail
  refine ⟨qgrow s W w5, ⟨by rw [Hsn.out]; exact hq5, ?_, fun k hk => ?_, ?_⟩, hf5.mono (fun _ _ hk => .inl hk), fun k hk => ?_⟩
  ·exact H2.out.fr0 hf5 (fun h => (H3.out N0 h).2.1 rfl)
  ·rcases hk with hk | hk
   ·exact H3.out k hk
   ·have g1 := H4'.out.size
    have g2 := Hsz.out
    rw [Hs4.out] at g2
    exact ⟨by omega, by omega, by omega⟩
  ·exact H4'.out.trans' hf5 (fun k hk h => absurd (H3.out k h).1 (Nat.not_le.2 hk))
  ·rcases hk with (hk | hk) | hk
   ·exact .inl (.inl hk)
   ·exact .inr hk.1
   ·exact .inl (.inr hk)
 case done =>
  rintro D s W hDe ⟨h1, h2, h3, h4⟩ hDf hK
  rw [Hs4.out] at hDe
  subst hDe
  have hc := h2.cell
  rw [List.take_length] at h1
  have hW : N0 + 2 < W.heap.size := (Array.getElem?_eq_some_iff.1 hK).1
  have hfp : Fr0 (fun k => k = N0 + 2) W (W.putObj (N0 + 2) (.deferred none)) := Fr0.putNew _ _ rfl
  have hfin := Lib.hid (show QIs (W.putObj (N0 + 2) (.deferred none)) qc n E.length E s ∧ (∀ k, s k → w.heap.size ≤ k) ∧ Fr0 none' w (W.putObj (N0 + 2) (.deferred none)) from ⟨h1.fr0 hfp (fun k hk e => hDf k (.inl hk) (by rw [e])), fun k hk => (h3 k hk).1, h4.trans' hfp (fun k hk e => by have := HN2.out; omega)⟩)
  have HK := Lib.hid hK
  clear h1 h2 h3 h4 hDf hK hfp it
  gi_wp2
  refine ⟨by simp, .inl ⟨_, _, rfl, run_takeDeferred HK.out, ?_⟩⟩
  refine ⟨_, results_tmp2 rfl _ _ _, qc, s, rfl, hfin.out⟩
/-- Copy, on a queue. -/
theorem QIs.copy (h : QIs w qb n T E ft) : Calls Tryz.prog 39 #[.pointer (some ⟨qb, 0, none⟩)] w fun e w' => ∃ cb ft', e = .returned (.tuple #[.pointer (some ⟨cb, 0, none⟩), .int .i64 0]) ∧ QIs w' cb n E.length E ft' ∧ (∀ k, ft' k → w.heap.size ≤ k) ∧ Fr0 none' w w' := callsIn_wide.1 (QCopy_in h)
end Go.Proofs.YtieeloealklkgaaGreat

/-
  calendar: do with a queue.
-/
namespace Go.Proofs.YtieeloealklkgaaGreat
open Go Go.RowKit Go.ChangeMaps
attribute [local go_sem ↓] Go.wp_at_zero Go.wp_at_succ
attribute [local go_sem] Oper.semAt_some wide_fn wide_depth wide_fnR wide_depthR

theorem ownsRow_heap {w w' : World} {base : Nat} {e : TypeId} {size : Nat} {v : Value} {n : Nat} {xs : List Value} (h : w.ownsRow base e size v n xs) (hh : w'.heap = w.heap) : w'.ownsRow base e size v n xs := by
 refine ⟨h.1, h.2.imp id ?_⟩
 rintro ⟨g, cap, cur, e1, e2, e3, e4, e5, e6, e7⟩
 exact ⟨g, cap, cur, e1, e2, hh.symm ▸ e3, e4, e5, e6, e7⟩
theorem HeapIn.heap {w w' : World} {hb ba n ca : Nat} {v : Value} {t : List Ent} {A : List Nat} (h : HeapIn w hb ba v n ca t A) (e : w'.heap = w.heap) : HeapIn w' hb ba v n ca t A := by
 refine ⟨by rw [e]; exact h.hd, ownsRow_heap h.tr e, ?_, h.n1, h.n2⟩
 obtain ⟨cur, h1, h2⟩ := h.tb
 exact ⟨cur, by rw [e]; exact h1, h2⟩
theorem HeapIs.heap {w w' : World} {hb ba n : Nat} {v : Value} {L : List Ent} (h : HeapIs w hb ba v n L) (e : w'.heap = w.heap) : HeapIs w' hb ba v n L := by
 obtain ⟨ca, t, A, h1, h2⟩ := h.some
 exact ⟨⟨ca, t, A, h1.heap e, h2⟩, h.sorted, h.once, h.place, h.size⟩
theorem QIn.heap {w w' : World} {qb sb pb hb ba eb mb n T : Nat} {hv : Value} {X : List Pd} {F : List Nat} {P : List Pl} {first : Int} {V : List Ev} (h : QIn w qb sb pb hb ba eb mb hv n T X F P first V) (e : w'.heap = w.heap) : QIn w' qb sb pb hb ba eb mb hv n T X F P first V :=
 { h with
  hd := by rw [e]; exact h.hd
  sl := ⟨by rw [e]; exact h.sl.hd, by rw [e]; exact h.sl.pl, h.sl.len, h.sl.ne⟩
  hp := h.hp.heap e
  ev := by rw [e]; exact h.ev
  nm := by
   obtain ⟨D, ⟨es, clock, h1, h2⟩, h3⟩ := h.nm
   exact ⟨D, ⟨es, clock, by rw [e]; exact h1, h2⟩, h3⟩ }
/-- A queue outlives whatever keeps its blocks. -/
theorem QIs.kept {w W : World} {qb n T : Nat} {E : List Ev} {ft : Nat → Prop} (h : QIs w qb n T E ft) (hs : w.heap.size ≤ W.heap.size) (hk : ∀ k, ft k → W.heap[k]? = w.heap[k]?) : QIs W qb n T E ft := by
 obtain ⟨W0, hW0⟩ : ∃ W0 : World, W0 = { W with os := w.os, tape := w.tape, output := w.output } := ⟨_, rfl⟩
 have hf : Fr0 (fun k => ¬ ft k) w W0 := by
  subst hW0
  exact ⟨rfl, rfl, rfl, hs, fun k _ hn => hk k (Classical.not_not.1 hn)⟩
 have h0 := h.fr0 hf (fun k h1 h2 => h2 h1)
 have hh : W.heap = W0.heap := by rw [hW0]
 obtain ⟨sb, pb, hb, ba, eb, mb, hv, X, F, P, first, V, h1, h2, h3, h4⟩ := h0
 exact ⟨sb, pb, hb, ba, eb, mb, hv, X, F, P, first, V, h1.heap hh, h2, h3, fun k hk => by rw [hh]; exact h4 k hk⟩
section
variable {w : World} {qb n T : Nat} {E : List Ev} {ft : Nat → Prop}
theorem QIs.cput (h : QIs w qb n T E ft) (hT : T + 1 < 4294967295) (x : Ev) :
  Calls Tryz.prog 27 #[.pointer (some ⟨qb, 0, none⟩), evV x] w fun e w' => e = .returned (.int .i64 (allV n E [x]).2) ∧ ∃ ft', QIs w' qb n (T + 1) (allE n E [x]) ft' ∧ (∀ k, ft' k → ft k ∨ w.heap.size ≤ k) ∧ Fr0 ft w w' := by
 refine (h.put1 x hT).mono ?_
 rintro e w' ⟨rfl, h1, h2⟩
 exact ⟨rfl, _, h1, fun k hk => hk.imp id (fun g => g.1), h2⟩
theorem QIs.ctake (h : QIs w qb n T E ft) (hT : T + 1 < 4294967295) :
  Calls Tryz.prog 156 #[.pointer (some ⟨qb, 0, none⟩)] w fun e w' => e = .returned (.tuple #[evV (takeC E).2.first, .int .i64 (takeC E).2.err]) ∧ ∃ ft', QIs w' qb n (T + 1) (takeC E).1 ft' ∧ (∀ k, ft' k → ft k ∨ w.heap.size ≤ k) ∧ Fr0 ft w w' := by
 refine (h.take (by omega)).mono ?_
 rintro e w' ⟨rfl, h1, h2⟩
 have h1 := h1.mono (Nat.le_succ T)
 cases E with
 | nil => exact ⟨rfl, _, h1, fun k hk => hk.imp id (fun g => g.1), h2⟩
 | cons x r => exact ⟨by rw [if_neg (by simp)]; rfl, _, h1, fun k hk => hk.imp id (fun g => g.1), h2⟩
theorem QIs.ccancel (h : QIs w qb n T E ft) (hT : T + 1 < 4294967295) (p : Int × Int) (h1 : I64 p.1) (h2 : I64 p.2) :
  Calls Tryz.prog 153 #[.pointer (some ⟨qb, 0, none⟩), .int .i64 p.1, .int .i64 p.2] w fun e w' => e = .returned (.tuple #[evV (cancelC p E).2.first, .int .i64 (cancelC p E).2.err]) ∧ ∃ ft', QIs w' qb n (T + 1) (cancelC p E).1 ft' ∧ (∀ k, ft' k → ft k ∨ w.heap.size ≤ k) ∧ Fr0 ft w w' := by
 refine (h.cancel h1 h2 (by omega)).mono ?_
 rintro e w' ⟨rfl, h1, h2⟩
 have h1 := h1.mono (Nat.le_succ T)
 unfold cancelC
 cases hf : findE p E with
 | none =>
  rw [delE_none (findE_none.1 hf)] at h1
  exact ⟨rfl, _, h1, fun k hk => hk.imp id (fun g => g.1), h2⟩
 | some x => exact ⟨rfl, _, h1, fun k hk => hk.imp id (fun g => g.1), h2⟩
theorem QIs.cbefore (h : QIs w qb n T E ft) (hT : T + 1 < 4294967295) (t : Int) :
  Calls Tryz.prog 157 #[.pointer (some ⟨qb, 0, none⟩), .int .i64 t] w fun e w' => ∃ v ft', e = .returned v ∧ w'.ownsRow w.heap.size 30 5 v (befE t E).length (flatEv (befE t E)) ∧ QIs w' qb n (T + 1) (aftE t E) ft' ∧ (∀ k, ft' k → ft k ∨ w.heap.size ≤ k) ∧ (∀ g, v.ownBlock = some g → ¬ ft' g) ∧ Fr0 ft w w' := by
 refine (h.takeBefore t (by omega)).mono ?_
 rintro e w' ⟨v, ft', rfl, h1, h2, h3⟩
 exact ⟨v, ft', rfl, h1, h2.mono (Nat.le_succ T), h3⟩
theorem QIs.cclear (h : QIs w qb n T E ft) (hT : T + 1 < 4294967295) :
  Calls Tryz.prog 154 #[.pointer (some ⟨qb, 0, none⟩)] w fun e w' => e = .returned (.tuple #[.int .i64 (E.length : Nat), .int .i64 0]) ∧ ∃ ft', QIs w' qb n (T + 1) [] ft' ∧ (∀ k, ft' k → ft k ∨ w.heap.size ≤ k) ∧ Fr0 ft w w' := by
 refine (h.clear (by omega)).mono ?_
 rintro e w' ⟨rfl, h1, h2⟩
 exact ⟨rfl, _, h1.mono (Nat.le_succ T), fun k hk => hk.imp id (fun g => g.1), h2⟩
end
set_option maxHeartbeats 2000000 in
theorem do_queue1 {w : World} {qb n T : Nat} {E : List Ev} {ft : Nat → Prop} (h : QIs w qb n T E ft) (hT : T + 1 < 4294967295) (x : Ev) (t : Int) :
  Calls Tryz.prog 70 #[.iface 37 (.pointer (some ⟨qb, 0, none⟩)), actCV ⟨1, x, t⟩] w (DoT w ft (doC n E ⟨1, x, t⟩).2 (fun ft' w' => QIs w' qb n (T + 1) (doC n E ⟨1, x, t⟩).1 ft')) := by
 have H := Lib.hid h
 clear h
 unfold actCV doC
 rw [if_pos rfl]
 obtain ⟨V1, hV1⟩ : ∃ V, w.alloc (.cells #[.int .u8 1, .int .i64 x.key.time, .int .i64 x.key.source, .int .i64 x.key.seq, .int .i64 x.to, .int .i64 x.value, .int .i64 t] 33) = V := ⟨_, rfl⟩
 have z1 : V1.heap.size = w.heap.size + 1 := by rw [← hV1, World.size_alloc]
 have f1 : Fr0 none' w V1 := by rw [← hV1]; exact (Fr0.refl _ _).alloc _
 have a1 : V1.heap[w.heap.size]? = some (.cells #[.int .u8 1, .int .i64 x.key.time, .int .i64 x.key.source, .int .i64 x.key.seq, .int .i64 x.to, .int .i64 x.value, .int .i64 t] 33 (0, 0)) := by rw [← hV1]; exact World.alloc_heap_new _ _
 obtain ⟨V2, hV2⟩ : ∃ V, V1.alloc (.cells #[.int .i64 0, .slice none 0 0] 56) = V := ⟨_, rfl⟩
 have f2 : Fr0 none' V1 V2 := by rw [← hV2]; exact (Fr0.refl _ _).alloc _
 have b2 : V2.heap[w.heap.size + 1]? = some (.cells #[.int .i64 0, .slice none 0 0] 56 (0, 0)) := by rw [← hV2, ← z1]; exact World.alloc_heap_new _ _
 have a2 := (f2.block w.heap.size (by omega) id).trans a1
 have Z2 := Lib.hid (show V2.heap.size = w.heap.size + 2 by rw [← hV2, World.size_alloc, z1])
 have F2 := Lib.hid (f1.trans f2)
 have B2 := Lib.hid b2
 have A2 := Lib.hid a2
 have H2 := Lib.hid (H.out.later F2.out)
 have HRB := Lib.hid (show ∀ k, ft k → k < w.heap.size from H.out.lt)
 clear f1 a1 f2 b2 a2 z1
 have HP := Lib.hid (H2.out.cput hT x)
 obtain ⟨c, hc⟩ : ∃ c, (allV n E [x]).2 = c := ⟨_, rfl⟩
 rw [hc] at HP
 have Hc := Lib.hid hc
 clear hc
 unfold evV at HP
 subst hV2
 subst hV1
 go_enter Tryz.func70, Tryz.ntmps70
 go_wp2_with fail
 refine HP.out.mono ?_
 rintro e w3 ⟨rfl, ft', hl, hft, hf⟩
 have b3 := (hf.block (w.heap.size + 1) (Array.getElem?_eq_some_iff.1 B2.out).1 (fun hk => by have := HRB.out _ hk; omega)).trans B2.out
 have t0 := thaw_in b3 0
 have t1 := thaw_in b3 1
 have u0 := cells_in b3 0
 have u1 := cells_in b3 1
 simp at u0 u1
 have B3 := Lib.hid b3
 clear b3
 have HL := Lib.hid hl
 have HF := Lib.hid hf
 have HT := Lib.hid hft
 clear hl hf hft
 go_wp2_with fail
 have e6 : ((w3.setCell ⟨w.heap.size + 1, 0, none⟩ (.int .i64 c)).setCell ⟨w.heap.size + 1, 1, none⟩ (.slice none 0 0)).heap[w.heap.size + 1]? = some (.cells #[.int .i64 c, .slice none 0 0] 56 (0, 0)) := heap_set_cell (heap_set_cell B3.out _) _
 have f6 : Fr0 (fun k => k = w.heap.size + 1) w3 ((w3.setCell ⟨w.heap.size + 1, 0, none⟩ (.int .i64 c)).setCell ⟨w.heap.size + 1, 1, none⟩ (.slice none 0 0)) := ((Fr0.refl (fun k => k = w.heap.size + 1) w3).setCell (fun _ => rfl) _).setCell (fun _ => rfl) _
 generalize (w3.setCell ⟨w.heap.size + 1, 0, none⟩ (.int .i64 c)).setCell ⟨w.heap.size + 1, 1, none⟩ (.slice none 0 0) = VV at e6 f6 ⊢
 have y0 := cells_in e6 0
 have y1 := cells_in e6 1
 simp at y0 y1
 have hne : ∀ k, ft' k → ¬ (k = w.heap.size + 1) := fun k hk e => by
  rcases HT.out k hk with h | h
  ·have := HRB.out k h; omega
  ·have := Z2.out; omega
 have hft9 : ∀ k, ft' k → ft k ∨ w.heap.size ≤ k := fun k hk => (HT.out k hk).imp id (fun h => by have := Z2.out; omega)
 have hfr9 : Fr0 ft w VV := ((F2.out.mono (S' := ft) (fun _ _ h => h.elim)).trans HF.out).trans' f6 (fun k hk e => by have e : k = w.heap.size + 1 := e; omega)
 exact bodyPost_ret (v := .agg #[.int .i64 c, .slice none 0 0]) (by simp [results, Tryz.results70, go_sem, y0, y1]) rfl ⟨.slice none 0 0, ft', by rw [Hc.out], World.ownsRow_nil _ _ _ _, HL.out.fr0 f6 hne, hft9, (fun g e => by cases e), hfr9⟩
set_option maxHeartbeats 2000000 in
theorem do_queue2 {w : World} {qb n T : Nat} {E : List Ev} {ft : Nat → Prop} (h : QIs w qb n T E ft) (hT : T + 1 < 4294967295) (x : Ev) (t : Int) :
  Calls Tryz.prog 70 #[.iface 37 (.pointer (some ⟨qb, 0, none⟩)), actCV ⟨2, x, t⟩] w (DoT w ft (doC n E ⟨2, x, t⟩).2 (fun ft' w' => QIs w' qb n (T + 1) (doC n E ⟨2, x, t⟩).1 ft')) := by
 have H := Lib.hid h
 clear h
 have hdo : doC n E ⟨2, x, t⟩ = takeC E := by unfold doC; simp
 rw [hdo]
 clear hdo
 unfold actCV
 obtain ⟨V1, hV1⟩ : ∃ V, w.alloc (.cells #[.int .u8 2, .int .i64 x.key.time, .int .i64 x.key.source, .int .i64 x.key.seq, .int .i64 x.to, .int .i64 x.value, .int .i64 t] 33) = V := ⟨_, rfl⟩
 have z1 : V1.heap.size = w.heap.size + 1 := by rw [← hV1, World.size_alloc]
 have f1 : Fr0 none' w V1 := by rw [← hV1]; exact (Fr0.refl _ _).alloc _
 have a1 : V1.heap[w.heap.size]? = some (.cells #[.int .u8 2, .int .i64 x.key.time, .int .i64 x.key.source, .int .i64 x.key.seq, .int .i64 x.to, .int .i64 x.value, .int .i64 t] 33 (0, 0)) := by rw [← hV1]; exact World.alloc_heap_new _ _
 obtain ⟨V2, hV2⟩ : ∃ V, V1.alloc (.cells #[.int .i64 0, .slice none 0 0] 56) = V := ⟨_, rfl⟩
 have f2 : Fr0 none' V1 V2 := by rw [← hV2]; exact (Fr0.refl _ _).alloc _
 have b2 : V2.heap[w.heap.size + 1]? = some (.cells #[.int .i64 0, .slice none 0 0] 56 (0, 0)) := by rw [← hV2, ← z1]; exact World.alloc_heap_new _ _
 have a2 := (f2.block w.heap.size (by omega) id).trans a1
 have Z2 := Lib.hid (show V2.heap.size = w.heap.size + 2 by rw [← hV2, World.size_alloc, z1])
 have F2 := Lib.hid (f1.trans f2)
 have B2 := Lib.hid b2
 have A2 := Lib.hid a2
 have H2 := Lib.hid (H.out.later F2.out)
 have HRB := Lib.hid (show ∀ k, ft k → k < w.heap.size from H.out.lt)
 clear f1 a1 f2 b2 a2 z1
 have HP := Lib.hid (H2.out.ctake hT)
 have ht := (takeC_one E)
 obtain ⟨R, hR⟩ : ∃ R, takeC E = R := ⟨_, rfl⟩
 rw [hR] at HP ht ⊢
 clear hR
 have HO := Lib.hid (fun W => one_told ht W)
 clear ht
 have HPP := HP
 unfold evV at HP HO
 skip
 subst hV2
 subst hV1
 go_enter Tryz.func70, Tryz.ntmps70
 go_wp2_with fail
 refine HP.out.mono ?_
 rintro e w3 ⟨rfl, ft', hl, hft, hf⟩
 have HL := Lib.hid hl
 have HT := Lib.hid hft
 have HL3 := Lib.hid (show ∀ k, ft' k → k < w3.heap.size from hl.lt)
 have HF := Lib.hid hf
 clear hl hft hf
 go_wp2_with fail
 refine (HO.out w3).mono ?_
 rintro e w4 ⟨v, rfl, hrow, hf4⟩
 have HF4 := Lib.hid (HF.out.trans' hf4 (fun _ _ h => h.elim))
 have b3 := (HF4.out.block (w.heap.size + 1) (Array.getElem?_eq_some_iff.1 B2.out).1 (fun hk => by have := HRB.out _ hk; omega)).trans B2.out
 have t0 := thaw_in b3 0
 have t1 := thaw_in b3 1
 have u0 := cells_in b3 0
 have u1 := cells_in b3 1
 simp at u0 u1
 have B3 := Lib.hid b3
 clear b3
 have HR := Lib.hid hrow
 have HL := Lib.hid (HL.out.later hf4)
 have HS := Lib.hid HF.out.size
 obtain ⟨ra, rc, hv, _, _⟩ := EsIn.of_own hrow
 clear hrow hf4
 subst hv
 go_wp2_with fail
 have e6 : ((w4.setCell ⟨w.heap.size + 1, 0, none⟩ (.int .i64 R.2.err)).setCell ⟨w.heap.size + 1, 1, none⟩ (.slice ra R.2.evs.length rc)).heap[w.heap.size + 1]? = some (.cells #[.int .i64 R.2.err, .slice ra R.2.evs.length rc] 56 (0, 0)) := heap_set_cell (heap_set_cell B3.out _) _
 have f6 : Fr0 (fun k => k = w.heap.size + 1) w4 ((w4.setCell ⟨w.heap.size + 1, 0, none⟩ (.int .i64 R.2.err)).setCell ⟨w.heap.size + 1, 1, none⟩ (.slice ra R.2.evs.length rc)) := ((Fr0.refl (fun k => k = w.heap.size + 1) w4).setCell (fun _ => rfl) _).setCell (fun _ => rfl) _
 generalize (w4.setCell ⟨w.heap.size + 1, 0, none⟩ (.int .i64 R.2.err)).setCell ⟨w.heap.size + 1, 1, none⟩ (.slice ra R.2.evs.length rc) = VV at e6 f6 ⊢
 have y0 := cells_in e6 0
 have y1 := cells_in e6 1
 simp at y0 y1
 have hs3 : w.heap.size + 2 ≤ w3.heap.size := by have := Z2.out; have := HS.out; omega
 have hne : ∀ k, ft' k → ¬ (k = w.heap.size + 1) := fun k hk e => by
  rcases HT.out k hk with h | h
  ·have := HRB.out k h; omega
  ·have := Z2.out; omega
 have hft9 : ∀ k, ft' k → ft k ∨ w.heap.size ≤ k := fun k hk => (HT.out k hk).imp id (fun h => by have := Z2.out; omega)
 have hfr9 : Fr0 ft w VV := ((F2.out.mono (S' := ft) (fun _ _ h => h.elim)).trans HF4.out).trans' f6 (fun k hk e => by have e : k = w.heap.size + 1 := e; omega)
 have hrow9 : VV.ownsRow w.heap.size 30 5 (.slice ra R.2.evs.length rc) R.2.evs.length (flatEv R.2.evs) := ownsRow_k_mono (ownsRow_fr0 HR.out f6 (fun g hg e => by have := (HR.out.lt g hg).1; have e : g = w.heap.size + 1 := e; omega)) (by omega)
 exact bodyPost_ret (v := .agg #[.int .i64 R.2.err, .slice ra R.2.evs.length rc]) (by simp [results, Tryz.results70, go_sem, y0, y1]) rfl ⟨_, ft', rfl, hrow9, HL.out.fr0 f6 hne, hft9, (fun g hg hk => by have := (HR.out.lt g hg).1; have := HL3.out g hk; omega), hfr9⟩
set_option maxHeartbeats 2000000 in
theorem do_queue4 {w : World} {qb n T : Nat} {E : List Ev} {ft : Nat → Prop} (h : QIs w qb n T E ft) (hT : T + 1 < 4294967295) (x : Ev) (hi : I64 x.name.1 ∧ I64 x.name.2) (t : Int) :
  Calls Tryz.prog 70 #[.iface 37 (.pointer (some ⟨qb, 0, none⟩)), actCV ⟨4, x, t⟩] w (DoT w ft (doC n E ⟨4, x, t⟩).2 (fun ft' w' => QIs w' qb n (T + 1) (doC n E ⟨4, x, t⟩).1 ft')) := by
 have H := Lib.hid h
 clear h
 have hdo : doC n E ⟨4, x, t⟩ = cancelC x.name E := by unfold doC; simp
 rw [hdo]
 clear hdo
 unfold actCV
 obtain ⟨V1, hV1⟩ : ∃ V, w.alloc (.cells #[.int .u8 4, .int .i64 x.key.time, .int .i64 x.key.source, .int .i64 x.key.seq, .int .i64 x.to, .int .i64 x.value, .int .i64 t] 33) = V := ⟨_, rfl⟩
 have z1 : V1.heap.size = w.heap.size + 1 := by rw [← hV1, World.size_alloc]
 have f1 : Fr0 none' w V1 := by rw [← hV1]; exact (Fr0.refl _ _).alloc _
 have a1 : V1.heap[w.heap.size]? = some (.cells #[.int .u8 4, .int .i64 x.key.time, .int .i64 x.key.source, .int .i64 x.key.seq, .int .i64 x.to, .int .i64 x.value, .int .i64 t] 33 (0, 0)) := by rw [← hV1]; exact World.alloc_heap_new _ _
 obtain ⟨V2, hV2⟩ : ∃ V, V1.alloc (.cells #[.int .i64 0, .slice none 0 0] 56) = V := ⟨_, rfl⟩
 have f2 : Fr0 none' V1 V2 := by rw [← hV2]; exact (Fr0.refl _ _).alloc _
 have b2 : V2.heap[w.heap.size + 1]? = some (.cells #[.int .i64 0, .slice none 0 0] 56 (0, 0)) := by rw [← hV2, ← z1]; exact World.alloc_heap_new _ _
 have a2 := (f2.block w.heap.size (by omega) id).trans a1
 have Z2 := Lib.hid (show V2.heap.size = w.heap.size + 2 by rw [← hV2, World.size_alloc, z1])
 have F2 := Lib.hid (f1.trans f2)
 have B2 := Lib.hid b2
 have A2 := Lib.hid a2
 have H2 := Lib.hid (H.out.later F2.out)
 have HRB := Lib.hid (show ∀ k, ft k → k < w.heap.size from H.out.lt)
 clear f1 a1 f2 b2 a2 z1
 have HP := Lib.hid (H2.out.ccancel hT x.name hi.1 hi.2)
 have ht := (cancelC_one x.name E)
 obtain ⟨R, hR⟩ : ∃ R, cancelC x.name E = R := ⟨_, rfl⟩
 rw [hR] at HP ht ⊢
 clear hR
 have HO := Lib.hid (fun W => one_told ht W)
 clear ht
 have HPP := HP
 unfold evV at HP HO
 unfold Ev.name at HP
 subst hV2
 subst hV1
 go_enter Tryz.func70, Tryz.ntmps70
 go_wp2_with fail
 refine HP.out.mono ?_
 rintro e w3 ⟨rfl, ft', hl, hft, hf⟩
 have HL := Lib.hid hl
 have HT := Lib.hid hft
 have HL3 := Lib.hid (show ∀ k, ft' k → k < w3.heap.size from hl.lt)
 have HF := Lib.hid hf
 clear hl hft hf
 go_wp2_with fail
 refine (HO.out w3).mono ?_
 rintro e w4 ⟨v, rfl, hrow, hf4⟩
 have HF4 := Lib.hid (HF.out.trans' hf4 (fun _ _ h => h.elim))
 have b3 := (HF4.out.block (w.heap.size + 1) (Array.getElem?_eq_some_iff.1 B2.out).1 (fun hk => by have := HRB.out _ hk; omega)).trans B2.out
 have t0 := thaw_in b3 0
 have t1 := thaw_in b3 1
 have u0 := cells_in b3 0
 have u1 := cells_in b3 1
 simp at u0 u1
 have B3 := Lib.hid b3
 clear b3
 have HR := Lib.hid hrow
 have HL := Lib.hid (HL.out.later hf4)
 have HS := Lib.hid HF.out.size
 obtain ⟨ra, rc, hv, _, _⟩ := EsIn.of_own hrow
 clear hrow hf4
 subst hv
 go_wp2_with fail
 have e6 : ((w4.setCell ⟨w.heap.size + 1, 0, none⟩ (.int .i64 R.2.err)).setCell ⟨w.heap.size + 1, 1, none⟩ (.slice ra R.2.evs.length rc)).heap[w.heap.size + 1]? = some (.cells #[.int .i64 R.2.err, .slice ra R.2.evs.length rc] 56 (0, 0)) := heap_set_cell (heap_set_cell B3.out _) _
 have f6 : Fr0 (fun k => k = w.heap.size + 1) w4 ((w4.setCell ⟨w.heap.size + 1, 0, none⟩ (.int .i64 R.2.err)).setCell ⟨w.heap.size + 1, 1, none⟩ (.slice ra R.2.evs.length rc)) := ((Fr0.refl (fun k => k = w.heap.size + 1) w4).setCell (fun _ => rfl) _).setCell (fun _ => rfl) _
 generalize (w4.setCell ⟨w.heap.size + 1, 0, none⟩ (.int .i64 R.2.err)).setCell ⟨w.heap.size + 1, 1, none⟩ (.slice ra R.2.evs.length rc) = VV at e6 f6 ⊢
 have y0 := cells_in e6 0
 have y1 := cells_in e6 1
 simp at y0 y1
 have hs3 : w.heap.size + 2 ≤ w3.heap.size := by have := Z2.out; have := HS.out; omega
 have hne : ∀ k, ft' k → ¬ (k = w.heap.size + 1) := fun k hk e => by
  rcases HT.out k hk with h | h
  ·have := HRB.out k h; omega
  ·have := Z2.out; omega
 have hft9 : ∀ k, ft' k → ft k ∨ w.heap.size ≤ k := fun k hk => (HT.out k hk).imp id (fun h => by have := Z2.out; omega)
 have hfr9 : Fr0 ft w VV := ((F2.out.mono (S' := ft) (fun _ _ h => h.elim)).trans HF4.out).trans' f6 (fun k hk e => by have e : k = w.heap.size + 1 := e; omega)
 have hrow9 : VV.ownsRow w.heap.size 30 5 (.slice ra R.2.evs.length rc) R.2.evs.length (flatEv R.2.evs) := ownsRow_k_mono (ownsRow_fr0 HR.out f6 (fun g hg e => by have := (HR.out.lt g hg).1; have e : g = w.heap.size + 1 := e; omega)) (by omega)
 exact bodyPost_ret (v := .agg #[.int .i64 R.2.err, .slice ra R.2.evs.length rc]) (by simp [results, Tryz.results70, go_sem, y0, y1]) rfl ⟨_, ft', rfl, hrow9, HL.out.fr0 f6 hne, hft9, (fun g hg hk => by have := (HR.out.lt g hg).1; have := HL3.out g hk; omega), hfr9⟩
set_option maxHeartbeats 2000000 in
theorem do_queue3 {w : World} {qb n T : Nat} {E : List Ev} {ft : Nat → Prop} (h : QIs w qb n T E ft) (hT : T + 1 < 4294967295) (x : Ev) (t : Int) :
  Calls Tryz.prog 70 #[.iface 37 (.pointer (some ⟨qb, 0, none⟩)), actCV ⟨3, x, t⟩] w (DoT w ft (doC n E ⟨3, x, t⟩).2 (fun ft' w' => QIs w' qb n (T + 1) (doC n E ⟨3, x, t⟩).1 ft')) := by
 have H := Lib.hid h
 clear h
 have hdo : doC n E ⟨3, x, t⟩ = (aftE t E, ⟨0, befE t E⟩) := by unfold doC; simp
 rw [hdo]
 clear hdo
 unfold actCV
 obtain ⟨V1, hV1⟩ : ∃ V, w.alloc (.cells #[.int .u8 3, .int .i64 x.key.time, .int .i64 x.key.source, .int .i64 x.key.seq, .int .i64 x.to, .int .i64 x.value, .int .i64 t] 33) = V := ⟨_, rfl⟩
 have z1 : V1.heap.size = w.heap.size + 1 := by rw [← hV1, World.size_alloc]
 have f1 : Fr0 none' w V1 := by rw [← hV1]; exact (Fr0.refl _ _).alloc _
 have a1 : V1.heap[w.heap.size]? = some (.cells #[.int .u8 3, .int .i64 x.key.time, .int .i64 x.key.source, .int .i64 x.key.seq, .int .i64 x.to, .int .i64 x.value, .int .i64 t] 33 (0, 0)) := by rw [← hV1]; exact World.alloc_heap_new _ _
 obtain ⟨V2, hV2⟩ : ∃ V, V1.alloc (.cells #[.int .i64 0, .slice none 0 0] 56) = V := ⟨_, rfl⟩
 have f2 : Fr0 none' V1 V2 := by rw [← hV2]; exact (Fr0.refl _ _).alloc _
 have b2 : V2.heap[w.heap.size + 1]? = some (.cells #[.int .i64 0, .slice none 0 0] 56 (0, 0)) := by rw [← hV2, ← z1]; exact World.alloc_heap_new _ _
 have a2 := (f2.block w.heap.size (by omega) id).trans a1
 have Z2 := Lib.hid (show V2.heap.size = w.heap.size + 2 by rw [← hV2, World.size_alloc, z1])
 have F2 := Lib.hid (f1.trans f2)
 have B2 := Lib.hid b2
 have A2 := Lib.hid a2
 have H2 := Lib.hid (H.out.later F2.out)
 have HRB := Lib.hid (show ∀ k, ft k → k < w.heap.size from H.out.lt)
 clear f1 a1 f2 b2 a2 z1
 have HP := Lib.hid (H2.out.cbefore hT t)
 subst hV2
 subst hV1
 go_enter Tryz.func70, Tryz.ntmps70
 go_wp2_with fail
 refine HP.out.mono ?_
 rintro e w3 ⟨v, ft', rfl, hrow, hl, hft, hd, hf⟩
 have b3 := (hf.block (w.heap.size + 1) (Array.getElem?_eq_some_iff.1 B2.out).1 (fun hk => by have := HRB.out _ hk; omega)).trans B2.out
 have t0 := thaw_in b3 0
 have t1 := thaw_in b3 1
 have u0 := cells_in b3 0
 have u1 := cells_in b3 1
 simp at u0 u1
 have B3 := Lib.hid b3
 clear b3
 have HL := Lib.hid hl
 have HF := Lib.hid hf
 have HT := Lib.hid hft
 have HR := Lib.hid hrow
 have HD := Lib.hid hd
 obtain ⟨ra, rc, hv, _, _⟩ := EsIn.of_own hrow
 obtain ⟨m, hm⟩ : ∃ m, (befE t E).length = m := ⟨_, rfl⟩
 have Hm := Lib.hid hm
 rw [hm] at hv
 clear hrow hl hf hft hd hm
 subst hv
 go_wp2_with fail
 have e6 : ((w3.setCell ⟨w.heap.size + 1, 0, none⟩ (.int .i64 0)).setCell ⟨w.heap.size + 1, 1, none⟩ (.slice ra m rc)).heap[w.heap.size + 1]? = some (.cells #[.int .i64 0, .slice ra m rc] 56 (0, 0)) := heap_set_cell (heap_set_cell B3.out _) _
 have f6 : Fr0 (fun k => k = w.heap.size + 1) w3 ((w3.setCell ⟨w.heap.size + 1, 0, none⟩ (.int .i64 0)).setCell ⟨w.heap.size + 1, 1, none⟩ (.slice ra m rc)) := ((Fr0.refl (fun k => k = w.heap.size + 1) w3).setCell (fun _ => rfl) _).setCell (fun _ => rfl) _
 generalize (w3.setCell ⟨w.heap.size + 1, 0, none⟩ (.int .i64 0)).setCell ⟨w.heap.size + 1, 1, none⟩ (.slice ra m rc) = VV at e6 f6 ⊢
 have y0 := cells_in e6 0
 have y1 := cells_in e6 1
 simp at y0 y1
 have hne : ∀ k, ft' k → ¬ (k = w.heap.size + 1) := fun k hk e => by
  rcases HT.out k hk with h | h
  ·have := HRB.out k h; omega
  ·have := Z2.out; omega
 have hft9 : ∀ k, ft' k → ft k ∨ w.heap.size ≤ k := fun k hk => (HT.out k hk).imp id (fun h => by have := Z2.out; omega)
 have hfr9 : Fr0 ft w VV := ((F2.out.mono (S' := ft) (fun _ _ h => h.elim)).trans HF.out).trans' f6 (fun k hk e => by have e : k = w.heap.size + 1 := e; omega)
 have hrow9 : VV.ownsRow w.heap.size 30 5 (.slice ra m rc) (befE t E).length (flatEv (befE t E)) := ownsRow_k_mono (ownsRow_fr0 HR.out f6 (fun g hg e => by have := (HR.out.lt g hg).1; have := Z2.out; have e : g = w.heap.size + 1 := e; omega)) (by have := Z2.out; omega)
 exact bodyPost_ret (v := .agg #[.int .i64 0, .slice ra m rc]) (by simp [results, Tryz.results70, go_sem, y0, y1]) rfl ⟨_, ft', rfl, hrow9, HL.out.fr0 f6 hne, hft9, HD.out, hfr9⟩
set_option maxHeartbeats 2000000 in
theorem do_queue5 {w : World} {qb n T : Nat} {E : List Ev} {ft : Nat → Prop} (h : QIs w qb n T E ft) (hT : T + 1 < 4294967295) (x : Ev) (t : Int) :
  Calls Tryz.prog 70 #[.iface 37 (.pointer (some ⟨qb, 0, none⟩)), actCV ⟨5, x, t⟩] w (DoT w ft (doC n E ⟨5, x, t⟩).2 (fun ft' w' => QIs w' qb n (T + 1) (doC n E ⟨5, x, t⟩).1 ft')) := by
 have H := Lib.hid h
 clear h
 have hdo : doC n E ⟨5, x, t⟩ = ([], ⟨0, E⟩) := by unfold doC; simp
 rw [hdo]
 clear hdo
 unfold actCV
 obtain ⟨V1, hV1⟩ : ∃ V, w.alloc (.cells #[.int .u8 5, .int .i64 x.key.time, .int .i64 x.key.source, .int .i64 x.key.seq, .int .i64 x.to, .int .i64 x.value, .int .i64 t] 33) = V := ⟨_, rfl⟩
 have z1 : V1.heap.size = w.heap.size + 1 := by rw [← hV1, World.size_alloc]
 have f1 : Fr0 none' w V1 := by rw [← hV1]; exact (Fr0.refl _ _).alloc _
 have a1 : V1.heap[w.heap.size]? = some (.cells #[.int .u8 5, .int .i64 x.key.time, .int .i64 x.key.source, .int .i64 x.key.seq, .int .i64 x.to, .int .i64 x.value, .int .i64 t] 33 (0, 0)) := by rw [← hV1]; exact World.alloc_heap_new _ _
 obtain ⟨V2, hV2⟩ : ∃ V, V1.alloc (.cells #[.int .i64 0, .slice none 0 0] 56) = V := ⟨_, rfl⟩
 have f2 : Fr0 none' V1 V2 := by rw [← hV2]; exact (Fr0.refl _ _).alloc _
 have b2 : V2.heap[w.heap.size + 1]? = some (.cells #[.int .i64 0, .slice none 0 0] 56 (0, 0)) := by rw [← hV2, ← z1]; exact World.alloc_heap_new _ _
 have a2 := (f2.block w.heap.size (by omega) id).trans a1
 have Z2 := Lib.hid (show V2.heap.size = w.heap.size + 2 by rw [← hV2, World.size_alloc, z1])
 have F2 := Lib.hid (f1.trans f2)
 have B2 := Lib.hid b2
 have A2 := Lib.hid a2
 have H2 := Lib.hid (H.out.later F2.out)
 have HRB := Lib.hid (show ∀ k, ft k → k < w.heap.size from H.out.lt)
 clear f1 a1 f2 b2 a2 z1
 have HP := Lib.hid (H2.out.all)
 subst hV2
 subst hV1
 go_enter Tryz.func70, Tryz.ntmps70
 go_wp2_with fail
 refine HP.out.mono ?_
 rintro e w3 ⟨v, rfl, hrow, hf⟩
 have HL := Lib.hid (H2.out.later hf)
 have HF := Lib.hid hf
 have HW3 := Lib.hid hf.size
 have HR := Lib.hid hrow
 clear hrow hf
 go_wp2_with fail
 refine (HL.out.cclear hT).mono ?_
 rintro e w4 ⟨rfl, ft', hl, hft, hf4⟩
 have HT := Lib.hid hft
 have HF4 := Lib.hid ((HF.out.mono (S' := ft) (fun _ _ h => h.elim)).trans hf4)
 have b3 := (HF4.out.block (w.heap.size + 1) (Array.getElem?_eq_some_iff.1 B2.out).1 (fun hk => by have := HRB.out _ hk; omega)).trans B2.out
 have t0 := thaw_in b3 0
 have t1 := thaw_in b3 1
 have u0 := cells_in b3 0
 have u1 := cells_in b3 1
 simp at u0 u1
 have B3 := Lib.hid b3
 clear b3
 have hng : ∀ g, v.ownBlock = some g → ¬ ft g := fun g hg hk => by have := (HR.out.lt g hg).1; have := HRB.out g hk; have := Z2.out; omega
 have hng2 : ∀ g, v.ownBlock = some g → ¬ ft' g := fun g hg hk => (hft g hk).elim (hng g hg) (fun h => by have := (HR.out.lt g hg).2; omega)
 have HR := Lib.hid (ownsRow_fr0 HR.out hf4 hng)
 have HNG := Lib.hid hng2
 have HL := Lib.hid hl
 obtain ⟨ra, rc, hv, _, _⟩ := EsIn.of_own HR.out
 obtain ⟨m, hm⟩ : ∃ m, E.length = m := ⟨_, rfl⟩
 rw [hm] at hv ⊢
 rw [hm] at HR
 clear hl hf4 hng hng2 hft
 subst hv
 go_wp2_with fail
 have e6 : ((w4.setCell ⟨w.heap.size + 1, 0, none⟩ (.int .i64 0)).setCell ⟨w.heap.size + 1, 1, none⟩ (.slice ra m rc)).heap[w.heap.size + 1]? = some (.cells #[.int .i64 0, .slice ra m rc] 56 (0, 0)) := heap_set_cell (heap_set_cell B3.out _) _
 have f6 : Fr0 (fun k => k = w.heap.size + 1) w4 ((w4.setCell ⟨w.heap.size + 1, 0, none⟩ (.int .i64 0)).setCell ⟨w.heap.size + 1, 1, none⟩ (.slice ra m rc)) := ((Fr0.refl (fun k => k = w.heap.size + 1) w4).setCell (fun _ => rfl) _).setCell (fun _ => rfl) _
 generalize (w4.setCell ⟨w.heap.size + 1, 0, none⟩ (.int .i64 0)).setCell ⟨w.heap.size + 1, 1, none⟩ (.slice ra m rc) = VV at e6 f6 ⊢
 have y0 := cells_in e6 0
 have y1 := cells_in e6 1
 simp at y0 y1
 have hne : ∀ k, ft' k → ¬ (k = w.heap.size + 1) := fun k hk e => by
  rcases HT.out k hk with h | h
  ·have := HRB.out k h; omega
  ·have := Z2.out; have := HW3.out; omega
 have hft9 : ∀ k, ft' k → ft k ∨ w.heap.size ≤ k := fun k hk => (HT.out k hk).imp id (fun h => by have := Z2.out; have := HW3.out; omega)
 have hfr9 : Fr0 ft w VV := ((F2.out.mono (S' := ft) (fun _ _ h => h.elim)).trans HF4.out).trans' f6 (fun k hk e => by have e : k = w.heap.size + 1 := e; omega)
 have hrow9 : VV.ownsRow w.heap.size 30 5 (.slice ra m rc) E.length (flatEv E) := by
  rw [hm]
  exact ownsRow_k_mono (ownsRow_fr0 HR.out f6 (fun g hg e => by have := (HR.out.lt g hg).1; have := Z2.out; have e : g = w.heap.size + 1 := e; omega)) (by have := Z2.out; omega)
 exact bodyPost_ret (v := .agg #[.int .i64 0, .slice ra m rc]) (by simp [results, Tryz.results70, go_sem, y0, y1]) rfl ⟨_, ft', rfl, hrow9, HL.out.fr0 f6 hne, hft9, HNG.out, hfr9⟩
theorem do_queue {w : World} {qb n T : Nat} {E : List Ev} {ft : Nat → Prop} (h : QIs w qb n T E ft) (hT : T + 1 < 4294967295) (a : Ca) (hk : 1 ≤ a.kind ∧ a.kind ≤ 5) (hi : I64 a.x.name.1 ∧ I64 a.x.name.2) :
  Calls Tryz.prog 70 #[.iface 37 (.pointer (some ⟨qb, 0, none⟩)), actCV a] w (DoT w ft (doC n E a).2 (fun ft' w' => QIs w' qb n (T + 1) (doC n E a).1 ft')) := by
 obtain ⟨kd, x, t⟩ := a
 simp only at hk hi
 have h5 : kd = 1 ∨ kd = 2 ∨ kd = 3 ∨ kd = 4 ∨ kd = 5 := by omega
 rcases h5 with rfl | rfl | rfl | rfl | rfl
 ·exact do_queue1 h hT x t
 ·exact do_queue2 h hT x t
 ·exact do_queue3 h hT x t
 ·exact do_queue4 h hT x hi t
 ·exact do_queue5 h hT x t
end Go.Proofs.YtieeloealklkgaaGreat

/-
  calendar: odd, Right.
-/
namespace Go.Proofs.YtieeloealklkgaaGreat
open Go Go.RowKit
attribute [local go_sem ↓] Go.wp_at_zero Go.wp_at_succ
attribute [local go_sem] Oper.semAt_some wide_fn wide_depth wide_fnR wide_depthR

set_option maxHeartbeats 2000000 in
theorem odd_any {w : World} {a : Option Addr} {m cap : Nat} (L : List Ca) (h : CasIn w a L) (hl : L.length = m) (hm : m ≤ 100000) (hk : ∀ x ∈ L, 0 ≤ x.kind ∧ x.kind < 256) :
  Calls Tryz.prog 40 #[.slice a m cap] w fun e w' => e = .returned (.int .i64 (oddC L)) ∧ Fr0 none' w w' := by
 have H := Lib.hid h
 have Hl := Lib.hid hl
 have Hk := Lib.hid hk
 obtain ⟨R, hR⟩ : ∃ R, oddC L = R := ⟨_, rfl⟩
 rw [hR]
 have HR := Lib.hid hR
 clear h hl hk hR
 go_enter Tryz.func40, Tryz.ntmps40
 go_wp2_with fail
 apply wp_scope_straight
 go_wp2_with fail
 apply wp_label
 go_wp2_with fail
 go_loopw [3, 4, 5, 8] (fun at_ _ _ i wr => ∃ k : Nat, k ≤ m ∧ at_ = .int .i64 (-1) ∧ i = .int .i64 k ∧ Hid (∀ b ∈ L.take k, 1 ≤ b.kind ∧ b.kind ≤ 5) ∧ Hid (Fr0 none' w wr)) (fun _ _ _ i _ => m - (Go.RowKit.intOf i).toNat)
 case atStart => exact ⟨0, Nat.zero_le _, rfl, rfl, by unfold Hid; simp, Fr0.refl _ _⟩
 case round =>
  obtain ⟨k, hk, rfl, rfl, hpre, hfr⟩ := hrel
  by_cases hlt : k < m
  ·obtain ⟨x, hx⟩ : ∃ x, L[k]? = some x := ⟨_, List.getElem?_eq_getElem (by rw [Hl.out]; exact hlt)⟩
   obtain ⟨g, o, rfl, hxc⟩ := (H.out.later hfr.out) k x hx
   obtain ⟨x0, x1, x2, x3, x4, x5, x6⟩ := hxc
   have k1 : (0 : Int) ≤ (k : Int) := by omega
   have k2 : (k : Int) < (m : Int) := by omega
   have Hkx := Lib.hid (Hk.out x (List.mem_of_getElem? hx))
   have Hx := Lib.hid hx
   obtain ⟨kd, y, t⟩ := x
   simp only at x0 x1 x2 x3 x4 x5 x6 Hkx
   have HF := Lib.hid (hfr.out.trans ((Fr0.refl none' wr).alloc (.cells #[.int .u8 kd, .int .i64 y.key.time, .int .i64 y.key.source, .int .i64 y.key.seq, .int .i64 y.to, .int .i64 y.value, .int .i64 t] 33)))
   clear hx
   by_cases hkd : 1 ≤ kd ∧ kd ≤ 5
   ·have hnext := Lib.hid (show ∀ b ∈ L.take (k + 1), 1 ≤ b.kind ∧ b.kind ≤ 5 from fun b hb => by
     rw [List.take_add_one, Hx.out, List.mem_append] at hb
     rcases hb with hb | hb
     ·exact hpre.out b hb
     ·simp at hb; subst hb; exact hkd)
    have h5 : kd = 1 ∨ kd = 2 ∨ kd = 3 ∨ kd = 4 ∨ kd = 5 := by omega
    clear hkd
    rcases h5 with rfl | rfl | rfl | rfl | rfl
    all_goals
     go_wp2_with fail
     go_roundw
     case rel => exact ⟨k + 1, by omega, rfl, by go_num, hnext, HF⟩
     case measure => simp [Go.RowKit.intOf]; omega
   ·have e1 : (kd == 1) = false := beq_eq_false_iff_ne.2 (by omega)
    have e2 : (kd == 2) = false := beq_eq_false_iff_ne.2 (by omega)
    have e3 : (kd == 3) = false := beq_eq_false_iff_ne.2 (by omega)
    have e4 : (kd == 4) = false := beq_eq_false_iff_ne.2 (by omega)
    have e5 : (kd == 5) = false := beq_eq_false_iff_ne.2 (by omega)
    have hres := Lib.hid (show (k : Int) = R by rw [← HR.out]; exact (oddC_at hpre.out Hx.out hkd).symm)
    clear hkd
    go_wp2_with fail
    simp only [Exit.noGoto]
    go_ret
    exact ⟨by rw [hres.out]; rfl, HF.out⟩
  ·have hres := Lib.hid (show (-1 : Int) = R by
    rw [← HR.out]
    exact (oddC_none (fun b hb => hpre.out b (by rw [List.take_of_length_le (by rw [Hl.out]; omega)]; exact hb))).symm)
   go_wp2_with fail
   simp only [Exit.noGoto]
   go_ret
   exact ⟨by rw [hres.out]; rfl, hfr.out⟩
theorem OnceE_snoc {L : List Ev} {k : Nat} {x : Ev} (hx : L[k]? = some x) (h : OnceE (L.take k)) (hn : ∀ y ∈ L.take k, y.name ≠ x.name) : OnceE (L.take (k + 1)) := by
 unfold OnceE at h ⊢
 rw [List.take_add_one, hx, List.map_append, List.nodup_append]
 refine ⟨h, by simp, ?_⟩
 intro a ha b hb
 simp at hb
 subst hb
 obtain ⟨y, hy, rfl⟩ := List.mem_map.1 ha
 exact hn y hy
/-- What Right has seen. -/
def SeenC (L : List Ev) (k : Nat) : Prop := (∀ x ∈ L.take k, RightE x) ∧ OnceE (L.take k)
theorem SeenC.step {L : List Ev} {k : Nat} {x : Ev} (hx : L[k]? = some x) (h : SeenC L k) (hr : RightE x) (hn : ∀ y ∈ L.take k, y.name ≠ x.name) : SeenC L (k + 1) := by
 refine ⟨fun y hy => ?_, OnceE_snoc hx h.2 hn⟩
 rw [List.take_add_one, hx, List.mem_append] at hy
 rcases hy with hy | hy
 ·exact h.1 y hy
 ·simp at hy; subst hy; exact hr
theorem SeenC.twice {L : List Ev} {k : Nat} {x : Ev} (hx : L[k]? = some x) {y : Ev} (hy : y ∈ L.take k) (hn : y.name = x.name) : ¬ OnceE L := fun h => by
 unfold OnceE at h
 have hk : k < L.length := (List.getElem?_eq_some_iff.1 hx).1
 rw [← List.take_append_drop k L, List.map_append, List.nodup_append] at h
 refine h.2.2 _ (List.mem_map.2 ⟨y, hy, rfl⟩) _ (List.mem_map.2 ⟨x, ?_, rfl⟩) hn
 rw [List.drop_eq_getElem_cons hk, ← (List.getElem?_eq_some_iff.1 hx).2]
 exact List.mem_cons_self
def EndR (L : List Ev) (c : Int) (w : World) (e : Ending) (w' : World) : Prop := ∃ b, e = .returned (.bool b) ∧ (b = true ↔ RightC L c) ∧ Fr0 none' w w'
theorem EndR.of {L : List Ev} {c : Int} {w w' : World} {e : Ending} {b : Bool} (he : e = .returned (.bool b)) (hb : b = true ↔ RightC L c) (hf : Fr0 none' w w') : EndR L c w e w' := ⟨b, he, hb, hf⟩
set_option maxHeartbeats 2000000 in
theorem CRight_any {w : World} {a : Option Addr} {n cap : Nat} {c : Int} (L : List Ev) (h : EsIn w a L) (hl : L.length = n) (hn : n ≤ 10000) (hcap : n ≤ cap) :
  Calls Tryz.prog 16 #[.slice a n cap, .int .i64 c] w fun e w' => EndR L c w e w' := by
 have HS := Lib.hid (Sorted_any (cap := cap) L h hl hn)
 have H := Lib.hid h
 have Hl := Lib.hid hl
 clear h hl
 by_cases g1 : c < 0
 ·have hb : Hid (false = true ↔ RightC L c) := Lib.hid ⟨fun h => by simp at h, fun h => by have := h.1.1; omega⟩
  have d1 : decide (c < 0) = true := decide_eq_true g1
  clear HS g1
  go_enter Tryz.func16, Tryz.ntmps16
  go_wp2_with fail
  go_ret
  exact EndR.of rfl hb.out (Fr0.refl _ _)
 by_cases g2 : c > 256
 ·have hb : Hid (false = true ↔ RightC L c) := Lib.hid ⟨fun h => by simp at h, fun h => by have := h.1.2; omega⟩
  have d1 : decide (c < 0) = false := decide_eq_false g1
  have d2 : decide (c > 256) = true := decide_eq_true g2
  have d2' : decide (256 < c) = true := decide_eq_true g2
  clear HS g1 g2
  go_enter Tryz.func16, Tryz.ntmps16
  go_wp2_with fail
  go_ret
  exact EndR.of rfl hb.out (Fr0.refl _ _)
 have d1 : decide (c < 0) = false := decide_eq_false g1
 have d2 : decide (c > 256) = false := decide_eq_false g2
 have d2' : decide (256 < c) = false := decide_eq_false g2
 by_cases g3 : (n : Int) > c
 ·have hb : Hid (false = true ↔ RightC L c) := Lib.hid ⟨fun h => by simp at h, fun h => by have := h.2.1; rw [Hl.out] at this; omega⟩
  have d3 : decide ((n : Int) > c) = true := decide_eq_true g3
  have d3' : decide (c < (n : Int)) = true := decide_eq_true g3
  clear HS g1 g2 g3
  go_enter Tryz.func16, Tryz.ntmps16
  go_wp2_with fail
  go_ret
  exact EndR.of rfl hb.out (Fr0.refl _ _)
 have d3 : decide ((n : Int) > c) = false := decide_eq_false g3
 have d3' : decide (c < (n : Int)) = false := decide_eq_false g3
 have Hc := Lib.hid (show (0 ≤ c ∧ c ≤ 256) ∧ (L.length : Int) ≤ c from ⟨⟨by omega, by omega⟩, by rw [Hl.out]; omega⟩)
 clear g1 g2 g3
 by_cases ho : AscE L
 ·rw [show decide (AscE L) = true from decide_eq_true ho] at HS
  have Ho := Lib.hid ho
  clear ho
  go_enter Tryz.func16, Tryz.ntmps16
  go_wp2_with fail
  refine HS.out.mono ?_
  rintro e w1 ⟨rfl, hf⟩
  have F1 := Lib.hid hf
  have H1 := Lib.hid (H.out.later hf)
  clear hf
  go_wp2_with fail
  go_loopw [26] (fun i wr => ∃ k : Nat, k ≤ n ∧ i = .int .i64 k ∧ Hid (SeenC L k) ∧ Hid (Fr0 none' w wr)) (fun i _ => n - (Go.RowKit.intOf i).toNat)
  case atStart => exact ⟨0, Nat.zero_le _, rfl, Lib.hid ⟨by simp, by simp [OnceE]⟩, F1⟩
  case round =>
   obtain ⟨k, hk, rfl, hseen, hfr⟩ := hrel
   by_cases hlt : k < n
   ·obtain ⟨x, hx⟩ : ∃ x, L[k]? = some x := ⟨_, List.getElem?_eq_getElem (by rw [Hl.out]; exact hlt)⟩
    obtain ⟨g, o, rfl, hxc⟩ := (H.out.later hfr.out) k x hx
    obtain ⟨x0, x1, x2, x3, x4⟩ := hxc
    have k1 : (0 : Int) ≤ (k : Int) := by omega
    have k2 : (k : Int) < (n : Int) := by omega
    have k3 : (k : Int) ≤ (cap : Int) := by omega
    obtain ⟨W1, hW1⟩ : ∃ W, wr.alloc (.cells #[.int .i64 x.key.time, .int .i64 x.key.source, .int .i64 x.key.seq, .int .i64 x.to, .int .i64 x.value] 30) = W := ⟨_, rfl⟩
    have hf1 : Fr0 none' wr W1 := by rw [← hW1]; exact (Fr0.refl _ _).alloc _
    have hb := (show W1.heap[wr.heap.size]? = some (.cells #[.int .i64 x.key.time, .int .i64 x.key.source, .int .i64 x.key.seq, .int .i64 x.to, .int .i64 x.value] 30 (0, 0)) by rw [← hW1]; exact World.alloc_heap_new _ _)
    have y0 := cells_in hb 0
    have y1 := cells_in hb 1
    have y2 := cells_in hb 2
    have y3 := cells_in hb 3
    have y4 := cells_in hb 4
    simp at y0 y1 y2 y3 y4
    have HZ := Lib.hid (fun (W' : World) (hf : Fr0 none' W1 W') => (⟨hf.later y0, hf.later y1, hf.later y2, hf.later y3, hf.later y4⟩ : W'.cell? ⟨wr.heap.size, 0, none⟩ = some (.int .i64 x.key.time) ∧ W'.cell? ⟨wr.heap.size, 1, none⟩ = some (.int .i64 x.key.source) ∧ W'.cell? ⟨wr.heap.size, 2, none⟩ = some (.int .i64 x.key.seq) ∧ W'.cell? ⟨wr.heap.size, 3, none⟩ = some (.int .i64 x.to) ∧ W'.cell? ⟨wr.heap.size, 4, none⟩ = some (.int .i64 x.value)))
    have HFW := Lib.hid (hfr.out.trans hf1)
    have HR := Lib.hid (QRight_is x)
    have Hx := Lib.hid hx
    have HFI := Lib.hid (fun (W : World) (hW : Fr0 none' W1 W) => findC_any (n := k) (cap := cap) (L.take k) (((H.out.later (hfr.out.trans hf1)).later hW).take k) (by rw [List.length_take]; have := Hl.out; omega) (by omega) x.name)
    unfold Ev.name at HFI
    clear hb y0 y1 y2 y3 y4 hx hf1
    by_cases hr : RightE x
    ·rw [show decide (RightE x) = true from decide_eq_true hr] at HR
     have Hr := Lib.hid hr
     unfold evV at HR
     clear hr
     rcases idxI_cases (fun y : Ev => y.name == x.name) (L.take k) with ⟨hi, hnone⟩ | ⟨j, hi, _, y, hy, hyn, _⟩
     ·unfold Ev.name at hi
      rw [hi] at HFI
      have hstep := Lib.hid (hseen.out.step Hx.out Hr.out (fun y hy => by have := hnone y hy; simpa using this))
      clear hi hnone
      go_wp2_with fail
      refine wp_region_held_drew (S := fun W' => Fr0 none' W1 W') (by kernel_rfl) ((Fr0.refl none' W1).drew) (fun hHeld => ?_)
      refine tkn (i := 0) (v := evV x) (fun W' hSW => ?_) ?_
      ·obtain ⟨y0, y1, y2, y3, y4⟩ := HZ.out W' hSW
       first|go_simp;done|exact rfl|go_simp;rfl|go_simp;omega
      try simp only[pUt,pUn,sEt,sEz,sEs]
      refine take_call (i := 1) rfl (by kernel_rfl) (by kernel_rfl) (fun K hK => ?_)
      go_simp
      refine (HR.out _).mono ?_
      rintro e w2 ⟨rfl, hf⟩
      have F2 := Lib.hid (hHeld.trans hf)
      clear hf
      go_wp2_with fail
      refine hK.out _ _ F2.out (fun hHeld => ?_)
      clear hK K
      try simp only[pUt,pUn,sEt,sEz,sEs]
      refine tk0 (i := 2) (v := .bool false) ?_
      try simp only[pUt,pUn,sEt,sEz,sEs]
      refine tk0 (i := 3) (v := .bool false) ?_
      try simp only[pUt,pUn,sEt,sEz,sEs]
      refine tk0 (i := 4) (v := .slice (some ⟨g, o, none⟩) n cap) ?_
      try simp only[pUt,pUn,sEt,sEz,sEs]
      refine tk0 (i := 5) (v := .int .i64 (k : Int)) ?_
      try simp only[pUt,pUn,sEt,sEz,sEs]
      refine tk0 (i := 6) (v := .slice (some ⟨g, o, none⟩) k cap) ?_
      try simp only[pUt,pUn,sEt,sEz,sEs]
      refine tkn (i := 7) (v := .pointer (some ⟨wr.heap.size, 0, none⟩)) (fun W' hSW => ?_) ?_
      ·obtain ⟨y0, y1, y2, y3, y4⟩ := HZ.out W' hSW
       first|go_simp;done|exact rfl|go_simp;rfl|go_simp;omega
      try simp only[pUt,pUn,sEt,sEz,sEs]
      refine tkn (i := 8) (v := .pointer (some ⟨wr.heap.size, 1, none⟩)) (fun W' hSW => ?_) ?_
      ·obtain ⟨y0, y1, y2, y3, y4⟩ := HZ.out W' hSW
       first|go_simp;done|exact rfl|go_simp;rfl|go_simp;omega
      try simp only[pUt,pUn,sEt,sEz,sEs]
      refine tkn (i := 9) (v := .int .i64 x.key.source) (fun W' hSW => ?_) ?_
      ·obtain ⟨y0, y1, y2, y3, y4⟩ := HZ.out W' hSW
       first|go_simp;done|exact rfl|go_simp;rfl|go_simp;omega
      try simp only[pUt,pUn,sEt,sEz,sEs]
      refine tkn (i := 10) (v := .pointer (some ⟨wr.heap.size, 0, none⟩)) (fun W' hSW => ?_) ?_
      ·obtain ⟨y0, y1, y2, y3, y4⟩ := HZ.out W' hSW
       first|go_simp;done|exact rfl|go_simp;rfl|go_simp;omega
      try simp only[pUt,pUn,sEt,sEz,sEs]
      refine tkn (i := 11) (v := .pointer (some ⟨wr.heap.size, 2, none⟩)) (fun W' hSW => ?_) ?_
      ·obtain ⟨y0, y1, y2, y3, y4⟩ := HZ.out W' hSW
       first|go_simp;done|exact rfl|go_simp;rfl|go_simp;omega
      try simp only[pUt,pUn,sEt,sEz,sEs]
      refine tkn (i := 12) (v := .int .i64 x.key.seq) (fun W' hSW => ?_) ?_
      ·obtain ⟨y0, y1, y2, y3, y4⟩ := HZ.out W' hSW
       first|go_simp;done|exact rfl|go_simp;rfl|go_simp;omega
      try simp only[pUt,pUn,sEt,sEz,sEs]
      refine take_call (i := 13) rfl (by kernel_rfl) (by kernel_rfl) (fun K hK => ?_)
      go_simp
      refine (HFI.out _ hHeld).mono ?_
      rintro e w3 ⟨rfl, hf⟩
      have F3 := Lib.hid (hHeld.trans hf)
      clear hf
      go_wp2_with fail
      refine hK.out _ _ F3.out (fun hHeld => ?_)
      clear hK K
      try simp only[pUt,pUn,sEt,sEz,sEs]
      refine tk0 (i := 14) (v := .bool false) ?_
      try simp only[pUt,pUn,sEt,sEz,sEs]
      refine tk0 (i := 15) (v := .bool false) ?_
      try simp only[pUt,pUn,sEt,sEz,sEs]
      refine wpAnyH_done (by kernel_rfl) ?_ _
      have F4 := Lib.hid (HFW.out.trans hHeld)
      clear hHeld F2 F3
      go_wp2_with fail
      go_roundw
      case rel => exact ⟨k + 1, by omega, by go_num, hstep, F4⟩
      case measure => simp [Go.RowKit.intOf]; omega
     ·unfold Ev.name at hi
      rw [hi] at HFI
      have d1 : decide ((j : Int) ≥ 0) = true := decide_eq_true (by omega)
      have d2 : decide ((0 : Int) ≤ (j : Int)) = true := decide_eq_true (by omega)
      have hres : Hid (false = true ↔ RightC L c) := Lib.hid ⟨fun h => by simp at h, fun h => absurd h.2.2.2.2 (SeenC.twice Hx.out (List.mem_of_getElem? hy) (by simpa using hyn))⟩
      clear hi hy hyn
      go_wp2_with fail
      refine wp_region_held_drew (S := fun W' => Fr0 none' W1 W') (by kernel_rfl) ((Fr0.refl none' W1).drew) (fun hHeld => ?_)
      refine tkn (i := 0) (v := evV x) (fun W' hSW => ?_) ?_
      ·obtain ⟨y0, y1, y2, y3, y4⟩ := HZ.out W' hSW
       first|go_simp;done|exact rfl|go_simp;rfl|go_simp;omega
      try simp only[pUt,pUn,sEt,sEz,sEs]
      refine take_call (i := 1) rfl (by kernel_rfl) (by kernel_rfl) (fun K hK => ?_)
      go_simp
      refine (HR.out _).mono ?_
      rintro e w2 ⟨rfl, hf⟩
      have F2 := Lib.hid (hHeld.trans hf)
      clear hf
      go_wp2_with fail
      refine hK.out _ _ F2.out (fun hHeld => ?_)
      clear hK K
      try simp only[pUt,pUn,sEt,sEz,sEs]
      refine tk0 (i := 2) (v := .bool false) ?_
      try simp only[pUt,pUn,sEt,sEz,sEs]
      refine tk0 (i := 3) (v := .bool false) ?_
      try simp only[pUt,pUn,sEt,sEz,sEs]
      refine tk0 (i := 4) (v := .slice (some ⟨g, o, none⟩) n cap) ?_
      try simp only[pUt,pUn,sEt,sEz,sEs]
      refine tk0 (i := 5) (v := .int .i64 (k : Int)) ?_
      try simp only[pUt,pUn,sEt,sEz,sEs]
      refine tk0 (i := 6) (v := .slice (some ⟨g, o, none⟩) k cap) ?_
      try simp only[pUt,pUn,sEt,sEz,sEs]
      refine tkn (i := 7) (v := .pointer (some ⟨wr.heap.size, 0, none⟩)) (fun W' hSW => ?_) ?_
      ·obtain ⟨y0, y1, y2, y3, y4⟩ := HZ.out W' hSW
       first|go_simp;done|exact rfl|go_simp;rfl|go_simp;omega
      try simp only[pUt,pUn,sEt,sEz,sEs]
      refine tkn (i := 8) (v := .pointer (some ⟨wr.heap.size, 1, none⟩)) (fun W' hSW => ?_) ?_
      ·obtain ⟨y0, y1, y2, y3, y4⟩ := HZ.out W' hSW
       first|go_simp;done|exact rfl|go_simp;rfl|go_simp;omega
      try simp only[pUt,pUn,sEt,sEz,sEs]
      refine tkn (i := 9) (v := .int .i64 x.key.source) (fun W' hSW => ?_) ?_
      ·obtain ⟨y0, y1, y2, y3, y4⟩ := HZ.out W' hSW
       first|go_simp;done|exact rfl|go_simp;rfl|go_simp;omega
      try simp only[pUt,pUn,sEt,sEz,sEs]
      refine tkn (i := 10) (v := .pointer (some ⟨wr.heap.size, 0, none⟩)) (fun W' hSW => ?_) ?_
      ·obtain ⟨y0, y1, y2, y3, y4⟩ := HZ.out W' hSW
       first|go_simp;done|exact rfl|go_simp;rfl|go_simp;omega
      try simp only[pUt,pUn,sEt,sEz,sEs]
      refine tkn (i := 11) (v := .pointer (some ⟨wr.heap.size, 2, none⟩)) (fun W' hSW => ?_) ?_
      ·obtain ⟨y0, y1, y2, y3, y4⟩ := HZ.out W' hSW
       first|go_simp;done|exact rfl|go_simp;rfl|go_simp;omega
      try simp only[pUt,pUn,sEt,sEz,sEs]
      refine tkn (i := 12) (v := .int .i64 x.key.seq) (fun W' hSW => ?_) ?_
      ·obtain ⟨y0, y1, y2, y3, y4⟩ := HZ.out W' hSW
       first|go_simp;done|exact rfl|go_simp;rfl|go_simp;omega
      try simp only[pUt,pUn,sEt,sEz,sEs]
      refine take_call (i := 13) rfl (by kernel_rfl) (by kernel_rfl) (fun K hK => ?_)
      go_simp
      refine (HFI.out _ hHeld).mono ?_
      rintro e w3 ⟨rfl, hf⟩
      have F3 := Lib.hid (hHeld.trans hf)
      clear hf
      go_wp2_with fail
      refine hK.out _ _ F3.out (fun hHeld => ?_)
      clear hK K
      try simp only[pUt,pUn,sEt,sEz,sEs]
      refine tk0 (i := 14) (v := .bool true) ?_
      try simp only[pUt,pUn,sEt,sEz,sEs]
      refine tk0 (i := 15) (v := .bool true) ?_
      try simp only[pUt,pUn,sEt,sEz,sEs]
      refine wpAnyH_done (by kernel_rfl) ?_ _
      have F4 := Lib.hid (HFW.out.trans hHeld)
      clear hHeld F2 F3
      go_wp2_with fail
      go_ret
      exact EndR.of rfl hres.out (F4.out)
    ·rw [show decide (RightE x) = false from decide_eq_false hr] at HR
     have hres : Hid (false = true ↔ RightC L c) := Lib.hid ⟨fun h => by simp at h, fun h => absurd (h.2.2.2.1 x (List.mem_of_getElem? Hx.out)) hr⟩
     unfold evV at HR
     clear hr
     go_wp2_with fail
     refine wp_region_held_drew (S := fun W' => Fr0 none' W1 W') (by kernel_rfl) ((Fr0.refl none' W1).drew) (fun hHeld => ?_)
     refine tkn (i := 0) (v := evV x) (fun W' hSW => ?_) ?_
     ·obtain ⟨y0, y1, y2, y3, y4⟩ := HZ.out W' hSW
      first|go_simp;done|exact rfl|go_simp;rfl|go_simp;omega
     try simp only[pUt,pUn,sEt,sEz,sEs]
     refine take_call (i := 1) rfl (by kernel_rfl) (by kernel_rfl) (fun K hK => ?_)
     go_simp
     refine (HR.out _).mono ?_
     rintro e w2 ⟨rfl, hf⟩
     have F2 := Lib.hid (hHeld.trans hf)
     clear hf
     go_wp2_with fail
     refine hK.out _ _ F2.out (fun hHeld => ?_)
     clear hK K
     try simp only[pUt,pUn,sEt,sEz,sEs]
     refine tk0 (i := 2) (v := .bool true) ?_
     try simp only[pUt,pUn,sEt,sEz,sEs]
     refine tk0 (i := 3) (v := .bool true) ?_
     try simp only[pUt,pUn,sEt,sEz,sEs]
     refine tkf (i := 4) ?_
     try simp only[pUt,pUn,sEt,sEz,sEs]
     refine tkf (i := 5) ?_
     try simp only[pUt,pUn,sEt,sEz,sEs]
     refine tkf (i := 6) ?_
     try simp only[pUt,pUn,sEt,sEz,sEs]
     refine tkf (i := 7) ?_
     try simp only[pUt,pUn,sEt,sEz,sEs]
     refine tkf (i := 8) ?_
     try simp only[pUt,pUn,sEt,sEz,sEs]
     refine tkf (i := 9) ?_
     try simp only[pUt,pUn,sEt,sEz,sEs]
     refine tkf (i := 10) ?_
     try simp only[pUt,pUn,sEt,sEz,sEs]
     refine tkf (i := 11) ?_
     try simp only[pUt,pUn,sEt,sEz,sEs]
     refine tkf (i := 12) ?_
     try simp only[pUt,pUn,sEt,sEz,sEs]
     refine tkf (i := 13) ?_
     try simp only[pUt,pUn,sEt,sEz,sEs]
     refine tkf (i := 14) ?_
     try simp only[pUt,pUn,sEt,sEz,sEs]
     refine tk0 (i := 15) (v := .bool true) ?_
     try simp only[pUt,pUn,sEt,sEz,sEs]
     refine wpAnyH_done (by kernel_rfl) ?_ _
     have F4 := Lib.hid (HFW.out.trans hHeld)
     clear hHeld F2
     go_wp2_with fail
     go_ret
     exact EndR.of rfl hres.out (F4.out)
   ·have hres : Hid (true = true ↔ RightC L c) := Lib.hid ⟨fun _ => ⟨Hc.out.1, Hc.out.2, Ho.out, fun x hx => hseen.out.1 x (by rw [List.take_of_length_le (by rw [Hl.out]; omega)]; exact hx), by have := hseen.out.2; rw [List.take_of_length_le (by rw [Hl.out]; omega)] at this; exact this⟩, fun _ => rfl⟩
    go_wp2_with fail
    go_ret
    exact EndR.of rfl (by simpa using hres.out) hfr.out
 ·rw [show decide (AscE L) = false from decide_eq_false ho] at HS
  have hb : Hid (false = true ↔ RightC L c) := Lib.hid ⟨fun h => by simp at h, fun h => absurd h.2.2.1 ho⟩
  clear ho
  go_enter Tryz.func16, Tryz.ntmps16
  go_wp2_with fail
  refine HS.out.mono ?_
  rintro e w1 ⟨rfl, hf⟩
  have F1 := Lib.hid hf
  clear hf
  go_wp2_with fail
  go_ret
  exact EndR.of rfl hb.out (F1.out)
end Go.Proofs.YtieeloealklkgaaGreat

/-
  slices.Collect at what acts told.
-/
namespace Go.Proofs.YtieeloealklkgaaGreat
open Go.RowKit
attribute [local go_sem] Oper.semAt_some wide_fn wide_depth wide_fnR wide_depthR

theorem info_told : (Tryz.prog.info? 56).map (fun i => (i.zero, i.size, i.bytes)) = some (some (.agg #[.int .i64 0, .slice none 0 0]), 2, 32) := by kernel_rfl
def flatTd (l : List Td) : List Value := l.flatMap Td.cells
theorem flatTd_snoc (l : List Td) (x : Td) : flatTd (l ++ [x]) = flatTd l ++ x.cells := by simp [flatTd]
/-- What was told, each in a row of its own, apart from S. -/
structure TdsOk (W : World) (T : List Tl) (ys : List Td) (v : Value) (base : Nat) (S : Nat → Prop) : Prop where
 tl : ys.map Td.tl = T
 row : ∀ y ∈ ys, W.ownsRow 0 30 5 y.v y.evs.length (flatEv y.evs)
 out : ∀ y ∈ ys, ∀ g, y.v.ownBlock = some g → ¬ S g ∧ v.ownBlock ≠ some g ∧ base ≤ g
 two : ys.Pairwise (fun a b => ∀ g, a.v.ownBlock = some g → b.v.ownBlock ≠ some g)
theorem TdsOk.nil (W : World) (v : Value) (base : Nat) (S : Nat → Prop) : TdsOk W [] [] v base S := ⟨rfl, fun _ h => by simp at h, fun _ h => by simp at h, List.Pairwise.nil⟩
theorem TdsOk.lt {W : World} {T : List Tl} {ys : List Td} {v : Value} {base : Nat} {S : Nat → Prop} (h : TdsOk W T ys v base S) : ∀ y ∈ ys, ∀ g, y.v.ownBlock = some g → g < W.heap.size := fun y hy g hg => ((h.row y hy).lt g hg).2
theorem TdsOk.fr0 {W W' : World} {T : List Tl} {ys : List Td} {v : Value} {base : Nat} {S S' : Nat → Prop} (h : TdsOk W T ys v base S) (hf : Fr0 S' W W') (hS : ∀ y ∈ ys, ∀ g, y.v.ownBlock = some g → ¬ S' g) : TdsOk W' T ys v base S :=
 ⟨h.tl, fun y hy => ownsRow_fr0 (h.row y hy) hf (fun g hg => hS y hy g hg), h.out, h.two⟩
theorem TdsOk.later {W W' : World} {T : List Tl} {ys : List Td} {v : Value} {base : Nat} {S : Nat → Prop} (h : TdsOk W T ys v base S) (hf : Fr0 none' W W') : TdsOk W' T ys v base S := h.fr0 hf (fun _ _ _ _ h => h)
theorem TdsOk.mono {W : World} {T : List Tl} {ys : List Td} {v v' : Value} {base base' : Nat} {S S' : Nat → Prop} (h : TdsOk W T ys v base S) (hS : ∀ g, g < W.heap.size → S' g → S g) (hv : ∀ g, g < W.heap.size → base ≤ g → v'.ownBlock = some g → v.ownBlock = some g) (hb : base' ≤ base) : TdsOk W T ys v' base' S' :=
 ⟨h.tl, h.row, fun y hy g hg => ⟨fun hs => (h.out y hy g hg).1 (hS g (h.lt y hy g hg) hs), fun e => (h.out y hy g hg).2.1 (hv g (h.lt y hy g hg) (h.out y hy g hg).2.2 e), Nat.le_trans hb (h.out y hy g hg).2.2⟩, h.two⟩
theorem TdsOk.snoc {W : World} {T : List Tl} {ys : List Td} {v : Value} {base : Nat} {S : Nat → Prop} (h : TdsOk W T ys v base S) {y : Td} (hr : W.ownsRow 0 30 5 y.v y.evs.length (flatEv y.evs)) (ho : ∀ g, y.v.ownBlock = some g → ¬ S g ∧ v.ownBlock ≠ some g ∧ base ≤ g) (hn : ∀ x ∈ ys, ∀ g, x.v.ownBlock = some g → y.v.ownBlock ≠ some g) : TdsOk W (T ++ [y.tl]) (ys ++ [y]) v base S :=
 ⟨by rw [List.map_append, h.tl]; rfl, fun x hx => (List.mem_append.1 hx).elim (h.row x) (fun e => by rw [List.mem_singleton.1 e]; exact hr), fun x hx => (List.mem_append.1 hx).elim (h.out x) (fun e => by rw [List.mem_singleton.1 e]; exact ho),
  List.pairwise_append.2 ⟨h.two, List.pairwise_singleton _ _, fun a ha b hb => by rw [List.mem_singleton.1 hb]; exact hn a ha⟩⟩
set_option maxHeartbeats 4000000 in
theorem AppendSeqT (gf : Nat) (lb : Array Value) (T : List Tl) (Fin : (Nat → Prop) → World → Prop) (own rd : Nat → Prop) (w : World) (eg : ∀ args w, (callFunc gf args).run Tryz.prog w = .ok (.enter gf args) w)
  (hit : IterR Tryz.prog gf lb (fun y : Td => #[y.val]) T.length (ToldR T) Fin own rd w) (hFin : ∀ X W1 W2 S, Fin X W1 → Fr0 S W1 W2 → (∀ k, own k ∨ X k → ¬ S k) → Fin X W2) (ho : ∀ k, own k → k < w.heap.size) (hr : ∀ k, rd k → k < w.heap.size) (hlen : T.length ≤ 1000000) :
  CallsIn Fence.wide 0 Tryz.prog 68 #[.slice none 0 0, .func (.func gf) #[] lb] w fun e w' =>
   ∃ v ys X, e = .returned v ∧ w'.ownsRow w.heap.size 56 2 v T.length (flatTd ys) ∧ TdsOk w' T ys v w.heap.size (fun k => own k ∨ X k) ∧ (∀ g, v.ownBlock = some g → ¬ X g) ∧ (∀ k, X k → w.heap.size ≤ k) ∧ Fin X w' ∧ Fr0 own w w' := by
 obtain ⟨i0, hi, hz0, hz1, hz2⟩ := info_parts info_told
 refine callsIn_of_wp_marks Tryz.func68 rfl trivial ?_ rfl
 simp only [Tryz.ntmps68, List.size_toArray, List.length_cons, List.length_nil, Nat.reduceAdd, Nat.reduceSub, Array.replicate_succ, Array.replicate_zero, List.push_toArray, List.append_toArray, List.nil_append, List.cons_append]
 gi_wp2_with fail
 refine wpIn_iterR (gf := gf) (lb := lb) rfl eg hit (fun i x X Z W h => h.2.2.2) ?hRf ?hFin (Fr0.keep ((Fr0.refl none' w).alloc _) (fun k hk => ⟨hr k hk, id⟩)) (fun _ => rfl) (fun k hk => by have := ho k hk; simp; omega) (fun k hk => by have := hr k hk; simp; omega)
  (fun i X W => ∃ v ys, Box W w.heap.size v ∧ W.ownsRow (w.heap.size + 3) 56 2 v i (flatTd ys) ∧ TdsOk W (T.take i) ys v (w.heap.size + 3) (fun k => own k ∨ X k) ∧ Fr0 own w W ∧ ∀ g, v.ownBlock = some g → ¬ X g)
  (fun _ _ => False) ?hI (fun _ _ _ h _ => h.elim) ?h0
  (fun x W a' => ∃ B, a' = { tmps := #[.slice none 0 0, .func (.func gf) #[] lb, .pointer (some ⟨w.heap.size, 0, none⟩), undef, .slice none 0 0, .pointer (some ⟨B, 0, none⟩), .func (.func gf) #[] lb, x.val, undef, undef, undef, undef, undef], defers := [] } ∧ w.heap.size + 2 < B ∧ W.heap[B]? = some (.cells x.cells.toArray 56 (0, 0)))
  ?assign ?keep ?body ?done (fun _ _ _ _ h _ => h.elim)
 case hRf =>
  rintro i x X Z W1 W2 ⟨h1, h2, h3, h4⟩ hX hf
  exact ⟨h1, ownsRow_fr0 h2 hf (fun g hg e => by have := hX g (h3 g hg).1; have e : g = _ := e; omega), h3, h4⟩
 case hFin =>
  intro X W1 W2 h hX hf
  refine hFin X W1 W2 _ h hf (fun k hk e => ?_)
  simp only [World.size_alloc] at e hX
  rcases hk with hk | hk
  ·have := ho k hk; omega
  ·have := hX k hk; omega
 case hI =>
  rintro i X Y W1 W2 ⟨v, ys, hb, hrow, hT, hfr, hX⟩ hXb hf hY
  simp only [World.size_alloc] at hf hXb
  refine ⟨v, ys, hb.fr0 hf (fun h => ?_), ownsRow_fr0 hrow hf (fun g hg h => ?_), (hT.mono (S' := fun k => own k ∨ Y k) (fun g hg h => ?_) (fun _ _ _ h => h) (Nat.le_refl _)).fr0 hf (fun y hy g hg h => ?_), hfr.trans' hf (fun k hk h => ?_), fun g hg hy => ?_⟩
  ·rcases h with h | h | h | h
   ·have := ho _ h; omega
   ·have := hXb _ h; omega
   ·omega
   ·omega
  ·have hlt := hrow.lt g hg
   rcases h with h | h | h | h
   ·have := ho _ h; omega
   ·exact hX g hg h
   ·omega
   ·omega
  ·rcases h with h | h
   ·exact .inl h
   ·rcases hY g h with h | h
    ·exact .inr h
    ·omega
  ·have h9 := hT.out y hy g hg
   rcases h with h | h | h | h
   ·exact h9.1 (.inl h)
   ·exact h9.1 (.inr h)
   ·omega
   ·omega
  ·rcases h with h | h | h | h
   ·exact h
   ·have := hXb _ h; omega
   ·omega
   ·omega
  ·rcases hY g hy with h | h
   ·exact hX g hg h
   ·have := hrow.lt g hg; omega
 case h0 =>
  exact ⟨_, [], Box.new w _ _, World.ownsRow_nil _ _ _ _, TdsOk.nil _ _ _ _, (Fr0.refl _ _).alloc _, fun g hg => by cases hg⟩
 case keep =>
  rintro x W1 W2 a' ⟨B, rfl, hB, hc⟩ hf
  refine ⟨B, rfl, hB, (hf.block B (Array.getElem?_eq_some_iff.1 hc).1 (by simp; omega)).trans hc⟩
 case assign =>
  intro l x W K hlt hK
  simp only [World.size_alloc] at hlt
  simp only [Td.val]
  gi_wp2
  exact hK _ _ ⟨W.heap.size, by simp [Td.val], by omega, World.alloc_heap_new W _⟩ ((Fr0.refl _ _).alloc _)
 case body =>
  rintro l i x X Z W a' r ⟨hxi, hxr, hxo, hZX⟩ ⟨v, ys, hb, hrow, hT, hfr, hX⟩ hXb ⟨B, rfl, hB, hcB⟩ hD hL
  have hlt : i < T.length := (List.getElem?_eq_some_iff.1 hxi).1
  have hsz : w.heap.size + 2 < W.heap.size := by have := (Array.getElem?_eq_some_iff.1 hL).1; simpa using this
  have hc := hb.cell
  have hf := hb.frozen
  simp only [World.size_alloc] at hXb
  have b0 := cells_of hcB 0
  have b1 := cells_of hcB 1
  simp [Td.cells] at b0 b1
  have HX := Lib.hid hX
  have HXb := Lib.hid hXb
  have Hxi := Lib.hid hxi
  have Hxr := Lib.hid hxr
  have Hxo := Lib.hid hxo
  have HZX := Lib.hid hZX
  have HT := Lib.hid hT
  clear hxi hxr hxo hZX hT hD hL hcB hX hXb
  have hsrc := Src.newRow (P := Tryz.prog) (size := 2) (tx := 44) (ty := 56) W Tryz.underlying44 1 1 x.cells rfl (by simp [Value.oneCell', Td.cells])
  simp only [Td.cells] at hsrc
  simp only [Td.val]
  gi_wp2_with (gi_at_builtin; refine wpListIn_append_k rfl _ _ 44 44 rfl (w.heap.size + 3) 56 i0 (.agg #[.int .i64 0, .slice none 0 0]) 2 32 Tryz.underlying44 hi hz0 hz1 hz2 rfl (by decide) v i _ rfl (hrow.alloc _) (.slice (some ⟨W.heap.size, 0, none⟩) 1 1) 1 _ rfl hsrc (by unfold maxLen; omega) (by omega) (by simp; omega) ?_; intro v' w1 hown' hgrow hdr hob; obtain ⟨g', cap', rfl⟩ := ownsRow_k_succ hown'; have hfg := ((Fr0.refl (fun k => v.ownBlock = some k) W).alloc _).grown hgrow (fun k hk _ => hk); have hb1 := hb.fr0 hfg (fun h => by have := (hrow.lt _ h).1; omega); have hc1 := hb1.cell; have hf1 := hb1.frozen)
  have hb2 := hb1.set (.slice (some ⟨g', 0, none⟩) (i + 1) cap')
  have hf2 := (hfg.mono (S' := fun k => k = w.heap.size ∨ v.ownBlock = some k) (fun k _ h => .inr h)).setCell (b := w.heap.size) (o := 0) (fun _ => .inl rfl) (.slice (some ⟨g', 0, none⟩) (i + 1) cap')
  have hnb : ∀ g, g < W.heap.size → w.heap.size + 3 ≤ g → (Value.slice (some ⟨g', 0, none⟩) (i + 1) cap').ownBlock = some g → v.ownBlock = some g := fun g hg _ e => by
   rcases hob with h | h
   ·exact h.symm.trans e
   ·rw [h] at e
    have e := Option.some.inj e
    rw [World.size_alloc] at e
    omega
  have hxb : ∀ g, x.v.ownBlock = some g → w.heap.size + 2 < g ∧ g < W.heap.size := fun g hg => by
   have := HXb.out g (Hxo.out g hg).1
   omega
  refine ⟨_, hf2, ?_, ⟨_, ys ++ [x], hb2, ?_, ?_, ?_, ?_⟩⟩
  ·intro k h1 h2
   simp only [World.size_alloc] at h2
   rcases h1 with h1 | h1
   ·rcases h2 with h | h | h | h
    ·have := hr _ h; omega
    ·have := HXb.out _ (HZX.out _ h); omega
    ·omega
    ·omega
   ·have h3 := hrow.lt _ h1
    rcases h2 with h | h | h | h
    ·have := hr _ h; omega
    ·exact HX.out _ h1 (HZX.out _ h)
    ·omega
    ·omega
  ·have h3 := ownsRow_setCell_below hown' (a := ⟨w.heap.size, 0, none⟩) (by simp) (.slice (some ⟨g', 0, none⟩) (i + 1) cap')
   rw [flatTd_snoc]
   exact h3
  ·have htk : T.take (i + 1) = T.take i ++ [x.tl] := by rw [List.take_add_one, Hxi.out]; rfl
   rw [htk]
   have h1 := (HT.out.mono (S' := fun k => own k ∨ Z k) (fun g _ h => h.imp id (HZX.out g)) hnb (Nat.le_refl _))
   have h2 := h1.snoc (y := x) Hxr.out (fun g hg => ⟨fun h => by
     rcases h with h | h
     ·have := ho g h; have := hxb g hg; omega
     ·exact (Hxo.out g hg).2 h, fun e => HX.out g (hnb g (hxb g hg).2 (by have := hxb g hg; omega) e) (Hxo.out g hg).1, by have := hxb g hg; omega⟩) (fun y hy g hg e => (HT.out.out y hy g hg).1 (.inr (Hxo.out g e).1))
   refine h2.fr0 hf2 (fun y hy g hg h => ?_)
   rcases List.mem_append.1 hy with hy | hy
   ·have h9 := HT.out.out y hy g hg
    rcases h with h | h
    ·omega
    ·exact h9.2.1 h
   ·rw [List.mem_singleton.1 hy] at hg
    rcases h with h | h
    ·have := hxb g hg; omega
    ·exact HX.out g h (Hxo.out g hg).1
  ·exact hfr.trans' hf2 (fun k hk h => by
    rcases h with h | h
    ·omega
    ·have := hrow.lt _ h; omega)
  ·intro g hg hZg
   rcases hob with h | h
   ·rw [hg] at h; exact HX.out _ h.symm (HZX.out _ hZg)
   ·rw [hg] at h
    injection h with h
    have := HXb.out _ (HZX.out _ hZg)
    simp at h; omega
 case done =>
  rintro D X W hDe ⟨v, ys, hb, hrow, hT, hfr, hX⟩ hXb hfin hK
  obtain rfl : D = w.heap.size + 1 := by simpa using hDe
  have hc := hb.cell
  rw [List.take_of_length_le (Nat.le_refl _)] at hT
  simp only [World.size_alloc] at hXb
  have hD : w.heap.size + 1 < W.heap.size := by have := (Array.getElem?_eq_some_iff.1 hK).1; simpa using this
  have hfp : Fr0 (fun k => k = w.heap.size + 1) W (W.putObj (w.heap.size + 1) (.deferred none)) := Fr0.putNew _ _ rfl
  have hfe : Fr0 own w (W.putObj (w.heap.size + 1) (.deferred none)) := hfr.putObj (fun h => by omega) _
  have hrow' := ownsRow_fr0 (ownsRow_k_mono hrow (by omega : w.heap.size ≤ w.heap.size + 3)) hfp (fun g hg h => by have := (hrow.lt g hg).1; have h : g = w.heap.size + 1 := h; omega)
  have hT' := (hT.fr0 hfp (fun y hy g hg h => by have := (hT.out y hy g hg).2.2; have h : g = w.heap.size + 1 := h; omega)).mono (S' := fun k => own k ∨ X k) (v' := v) (fun _ _ h => h) (fun _ _ _ h => h) (by omega : w.heap.size ≤ w.heap.size + 3)
  have hfin' := hFin X _ _ _ hfin hfp (fun k hk e => by
   have e : k = w.heap.size + 1 := e
   rcases hk with hk | hk
   ·have := ho k hk; omega
   ·have := hXb k hk; omega)
  have HP := Lib.hid (show (W.putObj (w.heap.size + 1) (.deferred none)).ownsRow w.heap.size 56 2 v T.length (flatTd ys) ∧ TdsOk (W.putObj (w.heap.size + 1) (.deferred none)) T ys v w.heap.size (fun k => own k ∨ X k) ∧ (∀ g, v.ownBlock = some g → ¬ X g) ∧ (∀ k, X k → w.heap.size ≤ k) ∧ Fin X (W.putObj (w.heap.size + 1) (.deferred none)) ∧ Fr0 own w (W.putObj (w.heap.size + 1) (.deferred none)) from ⟨hrow', hT', hX, fun k hk => by have := hXb k hk; omega, hfin', hfe⟩)
  have hK' := hK
  have hfv : ∃ a n c, v = .slice a n c := by
   rcases hrow.2 with ⟨rfl, _⟩ | ⟨g, cap, cur, rfl, _⟩
   ·exact ⟨_, _, _, rfl⟩
   ·exact ⟨_, _, _, rfl⟩
  clear hrow hb hfr hK hT hX hXb hfin hfp hfe hrow' hT' hfin'
  obtain ⟨sa, sn, sc, rfl⟩ := hfv
  gi_wp2
  refine ⟨by simp, .inl ⟨_, _, rfl, run_takeDeferred hK', ?_⟩⟩
  refine ⟨_, results_tmp rfl _ _ _, .slice sa sn sc, ys, X, rfl, ?_⟩
  exact HP.out
set_option maxHeartbeats 2000000 in
theorem CollectT (gf : Nat) (lb : Array Value) (T : List Tl) (Fin : (Nat → Prop) → World → Prop) (own rd : Nat → Prop) (w : World) (eg : ∀ args w, (callFunc gf args).run Tryz.prog w = .ok (.enter gf args) w)
  (hit : IterR Tryz.prog gf lb (fun y : Td => #[y.val]) T.length (ToldR T) Fin own rd w) (hFin : ∀ X W1 W2 S, Fin X W1 → Fr0 S W1 W2 → (∀ k, own k ∨ X k → ¬ S k) → Fin X W2) (ho : ∀ k, own k → k < w.heap.size) (hr : ∀ k, rd k → k < w.heap.size) (hlen : T.length ≤ 1000000) :
  Calls Tryz.prog 41 #[.func (.func gf) #[] lb] w fun e w' =>
   ∃ v ys X, e = .returned v ∧ w'.ownsRow w.heap.size 56 2 v T.length (flatTd ys) ∧ TdsOk w' T ys v w.heap.size (fun k => own k ∨ X k) ∧ (∀ g, v.ownBlock = some g → ¬ X g) ∧ (∀ k, X k → w.heap.size ≤ k) ∧ Fin X w' ∧ Fr0 own w w' := by
 have HC := Lib.hid (callsIn_wide.1 (AppendSeqT gf lb T Fin own rd w eg hit hFin ho hr hlen))
 clear hit
 go_enter Tryz.func41, Tryz.ntmps41
 go_wp2_with fail
 refine HC.out.mono ?_
 rintro e w1 ⟨v, ys, X, rfl, h1, h2, h3, h4, h5, h6⟩
 go_wp2
 go_ret
 exact ⟨_, ys, X, rfl, h1, h2, h3, h4, h5, h6⟩
end Go.Proofs.YtieeloealklkgaaGreat

/-
  calendar: told, Play.
-/
namespace Go.Proofs.YtieeloealklkgaaGreat
open Go Go.RowKit
attribute [local go_sem ↓] Go.wp_at_zero Go.wp_at_succ
attribute [local go_sem] Oper.semAt_some wide_fn wide_depth wide_fnR wide_depthR

theorem told_any (s : Value) (T : TypeId) (aa : Option Addr) (m ca : Nat) (w : World) :
  Calls Tryz.prog 42 #[.iface T s, .slice aa m ca] w fun e w' => ∃ ab sb, e = .returned (.func (.func 69) #[] #[.pointer (some ⟨ab, 0, none⟩), .pointer (some ⟨sb, 0, none⟩)]) ∧ Box w' ab (.slice aa m ca) ∧ Box w' sb (.iface T s) ∧ w.heap.size ≤ ab ∧ w.heap.size ≤ sb ∧ Fr0 none' w w' := by
 obtain ⟨W1, hW1⟩ : ∃ W, (w.alloc (.cells #[.iface T s] 140)).alloc (.cells #[.slice aa m ca] 23) = W := ⟨_, rfl⟩
 have hf : Fr0 none' w W1 := by rw [← hW1]; exact ((Fr0.refl _ _).alloc _).alloc _
 have hb0 : Box (w.alloc (.cells #[.iface T s] 140)) w.heap.size (.iface T s) := Box.new w _ _
 have hb1 : Box W1 w.heap.size (.iface T s) := by rw [← hW1]; exact hb0.fr0 ((Fr0.refl none' _).alloc _) id
 have hb2 := Box.new (w.alloc (.cells #[.iface T s] 140)) (.slice aa m ca) 23
 rw [World.size_alloc, hW1] at hb2
 have HB := Lib.hid hb1
 have HA := Lib.hid hb2
 have HF := Lib.hid hf
 clear hf hb0 hb1 hb2
 go_enter Tryz.func42, Tryz.ntmps42
 subst hW1
 go_wp2_with fail
 go_ret
 exact ⟨_, _, rfl, HA.out, HB.out, by omega, by omega, HF.out⟩
theorem results_tmp4 {fn : Func} {t u v x : Tmp} (h : fn.results = #[.tmp t, .tmp u, .tmp v, .tmp x]) (tmps : Array Value) (P : Program) (w : World) :
  (results fn tmps).run P w = .ok (.tuple #[tmps.getD t undef, tmps.getD u undef, tmps.getD v undef, tmps.getD x undef]) w := by
 simp [results, h]
/-- The end of Play. -/
def EndP (L : List Ev) (c : Int) (A : List Ca) (w : World) (e : Ending) (w' : World) : Prop :=
 ∃ v u ys, e = .returned (.tuple #[v, u, .int .i64 (playC L c A).2.2.1, .int .i64 (playC L c A).2.2.2]) ∧ w'.ownsRow w.heap.size 30 5 v (playC L c A).1.length (flatEv (playC L c A).1) ∧ w'.ownsRow w.heap.size 56 2 u (playC L c A).2.1.length (flatTd ys) ∧ TdsOk w' (playC L c A).2.1 ys u w.heap.size (fun k => v.ownBlock = some k) ∧ (∀ g, u.ownBlock = some g → v.ownBlock ≠ some g) ∧ Fr0 none' w w'
theorem EndP.none {L : List Ev} {c : Int} {A : List Ca} {w w' : World} {i f : Int} {e : Ending} (he : e = .returned (.tuple #[.slice none 0 0, .slice none 0 0, .int .i64 i, .int .i64 f])) (h : playC L c A = ([], [], i, f)) (hf : Fr0 none' w w') : EndP L c A w e w' := by
 unfold EndP
 rw [h]
 exact ⟨_, _, [], he, World.ownsRow_nil _ _ _ _, World.ownsRow_nil _ _ _ _, TdsOk.nil _ _ _ _, (fun g hg => by cases hg), hf⟩
theorem playC_wrong {L : List Ev} {c : Int} {A : List Ca} (h : ¬ RightC L c) : playC L c A = ([], [], -1, 120) := by
 unfold playC
 rw [if_neg h]
theorem playC_odd {L : List Ev} {c : Int} {A : List Ca} (h : RightC L c) (ho : 0 ≤ oddC A) : playC L c A = ([], [], oddC A, 121) := by
 unfold playC
 rw [if_pos h, if_pos ho]
theorem playC_right {L : List Ev} {c : Int} {A : List Ca} (h : RightC L c) (ho : ¬ 0 ≤ oddC A) : playC L c A = (stC c.toNat L A, tlC c.toNat L A, -1, 0) := by
 unfold playC
 rw [if_pos h, if_neg ho]
theorem oddC_ge (A : List Ca) : -1 ≤ oddC A := by
 rcases oddC_cases A with ⟨h, _⟩ | ⟨k, h, _⟩ <;> omega
theorem oddC_neg {A : List Ca} (h : ¬ 0 ≤ oddC A) : ∀ a ∈ A, 1 ≤ a.kind ∧ a.kind ≤ 5 := by
 rcases oddC_cases A with ⟨_, h2⟩ | ⟨k, h1, _⟩
 ·exact h2
 ·omega
set_option maxHeartbeats 2000000 in
theorem Play_any {w : World} {a aa : Option Addr} {n cap m ca : Nat} {c : Int} (L : List Ev) (A : List Ca) (h : EsIn w a L) (hl : L.length = n) (hn : n ≤ 10000) (hcap : n ≤ cap) (hA : CasIn w aa A) (hAl : A.length = m) (hm : m ≤ 100000) (hk : ∀ x ∈ A, 0 ≤ x.kind ∧ x.kind < 256) :
  Calls Tryz.prog 15 #[.slice a n cap, .int .i64 c, .slice aa m ca] w fun e w' => EndP L c A w e w' := by
 have HR := Lib.hid (CRight_any (c := c) L h hl hn hcap)
 have HO := Lib.hid (fun (W : World) (hW : Fr0 none' w W) => odd_any (cap := ca) A (hA.later hW) hAl hm hk)
 have HC := Lib.hid (fun (W : World) (hW : Fr0 none' w W) => CloneE (cap := cap) L (h.later hW) hl (by omega))
 have HL := Lib.hid h
 have HA := Lib.hid hA
 have Hl := Lib.hid hl
 have HAl := Lib.hid hAl
 have HK := Lib.hid hk
 clear h hl hA hAl hk
 go_enter Tryz.func15, Tryz.ntmps15
 go_wp2_with fail
 refine HR.out.mono ?_
 rintro e w1 ⟨b, rfl, hb, hf1⟩
 have F1 := Lib.hid hf1
 have HO1 := Lib.hid (HO.out _ hf1)
 clear HO hf1 HR
 cases b with
 | false =>
  have Hp := Lib.hid (playC_wrong (A := A) (fun h => by simpa using hb.2 h))
  clear hb HO1
  go_wp2_with fail
  try simp only [Exit.inBlock, Exit.then]
  refine bodyPost_ret (results_tmp4 rfl _ _ _) rfl ?_
  exact EndP.none rfl Hp.out F1.out
 | true =>
  have Hrc := Lib.hid (hb.1 rfl)
  clear hb
  obtain ⟨R, hR⟩ : ∃ R, oddC A = R := ⟨_, rfl⟩
  rw [hR] at HO1
  have hR1 : -1 ≤ R := by rw [← hR]; exact oddC_ge A
  by_cases h0 : 0 ≤ R
  ·have Hp := Lib.hid (playC_odd Hrc.out (by rw [hR]; exact h0))
   rw [hR] at Hp
   have d1 : decide (R ≥ 0) = true := decide_eq_true h0
   have d2 : decide (0 ≤ R) = true := decide_eq_true h0
   clear hR h0
   go_wp2_with fail
   refine HO1.out.mono ?_
   rintro e w2 ⟨rfl, hf⟩
   have F2 := Lib.hid (F1.out.trans hf)
   clear hf
   go_wp2_with fail
   try simp only [Exit.inBlock, Exit.then]
   refine bodyPost_ret (results_tmp4 rfl _ _ _) rfl ?_
   exact EndP.none rfl Hp.out F2.out
  ·have Hp := Lib.hid (playC_right Hrc.out (by rw [hR]; exact h0))
   have HK1 := Lib.hid (oddC_neg (by rw [hR]; exact h0))
   obtain rfl : R = -1 := by omega
   clear hR h0 hR1
   go_wp2_with fail
   refine HO1.out.mono ?_
   rintro e w2 ⟨rfl, hf⟩
   have F2 := Lib.hid (F1.out.trans hf)
   clear hf
   go_wp2_with fail
   refine (HC.out _ F2.out).mono ?_
   rintro e w3 ⟨v1, rfl, hrow, hf⟩
   obtain ⟨va, vc, rfl⟩ : ∃ va vc, v1 = .slice va n vc := by
    rcases hrow.2 with ⟨rfl, h0⟩ | ⟨g, cap, cur, rfl, _⟩
    ·exact ⟨none, 0, by rw [h0]⟩
    ·exact ⟨_, cap, rfl⟩
   have F3 := Lib.hid (F2.out.trans hf)
   have HRow := Lib.hid hrow
   have F2s := Lib.hid F2.out.size
   obtain ⟨W4, hW4⟩ : ∃ V, w3.alloc (.cells #[.slice va n vc, .int .i64 c] 107) = V := ⟨_, rfl⟩
   have f4 : Fr0 none' w3 W4 := by rw [← hW4]; exact (Fr0.refl _ _).alloc _
   have b4 : W4.heap[w3.heap.size]? = some (.cells #[.slice va n vc, .int .i64 c] 107 (0, 0)) := by rw [← hW4]; exact World.alloc_heap_new _ _
   have s4 : W4.heap.size = w3.heap.size + 1 := by rw [← hW4]; exact World.size_alloc _ _
   have hc0 : 0 ≤ c ∧ c ≤ 256 := Hrc.out.1
   obtain ⟨N, rfl⟩ : ∃ N : Nat, c = (N : Int) := ⟨c.toNat, by omega⟩
   have hli : LIs W4 w3.heap.size N L (fun k => k = w3.heap.size ∨ (Value.slice va n vc).ownBlock = some k) :=
    ⟨⟨_, b4, by rw [Hl.out]; exact ownsRow_k_mono (ownsRow_fr0 hrow f4 (fun _ _ h => h)) (Nat.zero_le _), fun e => by have := (hrow.lt _ e).2; omega, fun g hg => .inr hg⟩, Hrc.out.good, by omega, .inl rfl, fun k hk => by
     rcases hk with rfl | hk
     ·omega
     ·have := (hrow.lt k hk).2; omega⟩
   have HLI := Lib.hid hli
   have HTO := Lib.hid (told_any (.pointer (some ⟨w3.heap.size, 0, none⟩)) 105 aa m ca W4)
   have F4 := Lib.hid (F3.out.trans f4)
   clear hrow hf f4 b4 hli
   go_wp2_with fail
   refine HTO.out.mono ?_
   rintro e w5 ⟨ab, sb, rfl, hab, hsb, hab0, hsb0, hf5⟩
   have F5 := Lib.hid (F4.out.trans hf5)
   have hs5 := hf5.size
   obtain ⟨ft, hft⟩ : ∃ ft : Nat → Prop, ft = fun k => k = w3.heap.size ∨ (Value.slice va n vc).ownBlock = some k := ⟨_, rfl⟩
   have hli5 := HLI.out.later hf5
   rw [← hft] at hli5
   have hft1 : ∀ k, ft k → w.heap.size ≤ k ∧ k < w3.heap.size + 1 := fun k hk => by
    rw [hft] at hk
    have := F2s.out
    rcases hk with rfl | hk
    ·have := F3.out.size; omega
    ·have := HRow.out.lt k hk; omega
   have HCo := Lib.hid (CollectT 69 #[.pointer (some ⟨ab, 0, none⟩), .pointer (some ⟨sb, 0, none⟩)] (tlC N L A) (ListF w3.heap.size N (stC N L A) ft) ft (fun k => k = ab ∨ k = sb ∨ (∃ o s, aa = some ⟨k, o, s⟩ ∧ A ≠ []) ∨ ft k) w5 (fun _ _ => rfl)
    (by rw [tlC_length, HAl.out]; exact told_list hli5 (HA.out.later F5.out) HAl.out hm HK1.out hab hsb (fun h0 g o s e h => by have := (HA.out.lt h0 g o s e); have := hft1 g h; omega) (fun h => by have := hft1 _ h; omega) (fun h => by have := hft1 _ h; omega))
    (fun X W1 W2 S hF hf hS => by obtain ⟨f', h1, h2⟩ := hF; exact ⟨f', h1.fr0 hf (fun k hk => hS k (h2 k hk)), h2⟩)
    (fun k hk => hli5.lt k hk)
    (fun k hk => by
     rcases hk with rfl | rfl | ⟨o, s, e, h0⟩ | hk
     ·exact hab.lt
     ·exact hsb.lt
     ·have := HA.out.lt h0 k o s e; have := F5.out.size; omega
     ·exact hli5.lt k hk)
    (by rw [tlC_length, HAl.out]; omega))
   have HFT := Lib.hid hft1
   have Hs5 := Lib.hid (show w3.heap.size + 1 ≤ w5.heap.size by omega)
   clear hab hsb hab0 hsb0 hf5 hs5 hft hli5 hft1 HLI
   go_wp2_with fail
   refine HCo.out.mono ?_
   rintro e w6 ⟨u, ys, X, rfl, hu, hT, huX, hX0, ⟨ft', hl6, hft'⟩, hf6⟩
   obtain ⟨v6, h1, h2, h3, h4⟩ := hl6.row
   obtain ⟨va6, vc6, hv6, _, _⟩ := EsIn.of_own h2
   obtain ⟨vn6, hvn6⟩ : ∃ k, (stC N L A).length = k := ⟨_, rfl⟩
   rw [hvn6] at hv6
   subst hv6
   have hul : ∃ a b c, u = .slice a b c := by
    rcases hu.2 with ⟨rfl, _⟩ | ⟨g, cap, cur, rfl, _⟩
    ·exact ⟨_, _, _, rfl⟩
    ·exact ⟨_, _, _, rfl⟩
   obtain ⟨ua, un, uc, rfl⟩ := hul
   have c0 := cells_in h1 0
   simp at c0
   have hs6 := F5.out.size
   have hblk : ∀ g, (Value.slice va6 vn6 vc6).ownBlock = some g → (ft g ∨ X g) ∧ w.heap.size ≤ g := fun g hg => by
    have := hft' g (h4 g hg)
    rcases this with h | h
    ·exact ⟨.inl h, (HFT.out g h).1⟩
    ·exact ⟨.inr h, by have := hX0 g h; omega⟩
   have HE := Lib.hid (show EndP L N A w (.returned (.tuple #[.slice va6 vn6 vc6, .slice ua un uc, .int .i64 (-1), .int .i64 0])) w6 from by
    unfold EndP
    rw [Hp.out, Int.toNat_natCast]
    refine ⟨_, _, ys, rfl, ownsRow_k_raise h2 (fun g hg => (hblk g hg).2), ownsRow_k_mono hu (by omega), hT.mono (fun g _ hg => (hblk g hg).1) (fun _ _ _ h => h) (by omega), fun g hg e => ?_, F5.out.trans' hf6 (fun k hk h => by have := (HFT.out k h).1; omega)⟩
    have hg5 := (hu.lt g hg).1
    rcases (hblk g e).1 with h | h
    ·have := HFT.out g h; have := Hs5.out; omega
    ·exact huX g hg h)
   clear hu hT huX hX0 hl6 hft' hf6 h1 h2 h3 h4 hvn6 hs6 hblk
   go_wp2_with fail
   try simp only [Exit.inBlock, Exit.then]
   refine bodyPost_ret (results_tmp4 rfl _ _ _) rfl ?_
   exact HE.out
end Go.Proofs.YtieeloealklkgaaGreat

/-
  calendar: told with a queue.
-/
namespace Go.Proofs.YtieeloealklkgaaGreat
open Go Go.RowKit Go.ChangeMaps
attribute [local go_sem ↓] Go.wp_at_zero Go.wp_at_succ
attribute [local go_sem] Oper.semAt_some wide_fn wide_depth wide_fnR wide_depthR

/-- What the queue has become. -/
def QueueF (qb n T : Nat) (E : List Ev) (own X : Nat → Prop) (W : World) : Prop := ∃ ft, QIs W qb n T E ft ∧ ∀ k, ft k → own k ∨ X k
set_option maxHeartbeats 4000000 in
theorem told_queue {w : World} {qb n T m cap ab sb : Nat} {E : List Ev} {ft : Nat → Prop} {a : Option Addr} {L : List Ca} (h : QIs w qb n T E ft) (hT : T + m < 4294967295) (hL : CasIn w a L) (hl : L.length = m) (hm : m ≤ 100000) (hk : ∀ a ∈ L, 1 ≤ a.kind ∧ a.kind ≤ 5) (hi : ∀ a ∈ L, I64 a.x.name.1 ∧ I64 a.x.name.2)
  (hab : Box w ab (.slice a m cap)) (hsb : Box w sb (.iface 37 (.pointer (some ⟨qb, 0, none⟩)))) (hna : L ≠ [] → ∀ g o s, a = some ⟨g, o, s⟩ → ¬ ft g) (hnab : ¬ ft ab) (hnsb : ¬ ft sb) :
  IterR Tryz.prog 69 #[.pointer (some ⟨ab, 0, none⟩), .pointer (some ⟨sb, 0, none⟩)] (fun y : Td => #[y.val]) m (ToldR (tlC n E L)) (QueueF qb n (T + m) (stC n E L) ft) ft (fun k => k = ab ∨ k = sb ∨ (∃ o s, a = some ⟨k, o, s⟩ ∧ L ≠ []) ∨ ft k) w := by
 intro l J Jx W hK hJ hJx hY h0
 have H := Lib.hid (h.kept hK.1 (fun k hk => hK.2 k (.inr (.inr (.inr hk)))))
 have HL := Lib.hid (show L ≠ [] → CasIn W a L from fun hne => hL.kept (fun g o s e => hK.2 g (.inr (.inr (.inl ⟨o, s, e, hne⟩)))))
 have HA := Lib.hid (hab.of_block (hK.2 ab (.inl rfl)))
 have HS := Lib.hid (hsb.of_block (hK.2 sb (.inr (.inl rfl))))
 have HNA := Lib.hid hna
 have Hnab := Lib.hid hnab
 have Hnsb := Lib.hid hnsb
 have HJ := Lib.hid hJ
 have HY := Lib.hid hY
 have Hl := Lib.hid hl
 have Hk := Lib.hid hk
 have Hi := Lib.hid hi
 have H0 := Lib.hid h0
 have c0 := HA.out.cell
 clear h hL hab hsb hna hnab hnsb hJ hY hK hk hl h0 hi
 refine callsIn_of_wp Tryz.func69 rfl trivial ?_ rfl
 simp only [Tryz.ntmps69, List.size_toArray, List.length_cons, List.length_nil, Nat.reduceAdd, Nat.reduceSub, Array.replicate_succ, Array.replicate_zero, List.push_toArray, List.append_toArray, List.nil_append, List.cons_append]
 gi_wp2_with fail
 gi_loopw [5, 8] (fun _ i wr => ∃ (k : Nat) (X fk : Nat → Prop), k ≤ m ∧ i = .int .i64 k ∧ Hid (J k X wr) ∧ Hid (QIs wr qb n (T + k) (stC n E (L.take k)) fk ∧ ∀ j, fk j → ft j ∨ X j) ∧ Hid (Keep (fun b => b = ab ∨ b = sb ∨ ∃ o s, a = some ⟨b, o, s⟩ ∧ L ≠ []) W wr) ∧ Hid (∀ j, X j → W.heap.size ≤ j)) (fun _ i _ => m - (Go.RowKit.intOf i).toNat)
 case atStart => exact ⟨0, none', ft, Nat.zero_le _, rfl, H0.out, ⟨H.out, fun j hj => .inl hj⟩, Keep.refl _ _, fun j hj => hj.elim⟩
 case round =>
  clear H0
  obtain ⟨k, X, fk, hk, rfl, hj, hS, hKp, hX⟩ := hrel
  by_cases hlt : k < m
  ·have hne : L ≠ [] := fun e => by have := Hl.out; rw [e] at this; simp at this; omega
   obtain ⟨x, hx⟩ : ∃ x, L[k]? = some x := ⟨_, List.getElem?_eq_getElem (by rw [Hl.out]; exact hlt)⟩
   obtain ⟨g2, o, rfl, _⟩ := HL.out hne k x hx
   have hcas : CasIn wr (some ⟨g2, o, none⟩) L := (HL.out hne).kept (fun g o' s e => hKp.out.2 g (.inr (.inr ⟨o', s, e, hne⟩)))
   obtain ⟨g3, o3, e3, hxc⟩ := hcas k x hx
   injection e3 with e3
   injection e3 with e3 e4
   subst e3 e4
   obtain ⟨x0, x1, x2, x3, x4, x5, x6⟩ := hxc
   have k1 : (0 : Int) ≤ (k : Int) := by omega
   have k2 : (k : Int) < (m : Int) := by omega
   have z5 : IntKind.i64.wrap ((k : Int) + 1) = (k : Int) + 1 := IntWalk.i64_in _ (by omega)
   obtain ⟨W2, hW2⟩ : ∃ V, wr.alloc (.cells #[.int .u8 x.kind, .int .i64 x.x.key.time, .int .i64 x.x.key.source, .int .i64 x.x.key.seq, .int .i64 x.x.to, .int .i64 x.x.value, .int .i64 x.time] 33) = V := ⟨_, rfl⟩
   have f2 : Fr0 none' wr W2 := by rw [← hW2]; exact (Fr0.refl _ _).alloc _
   have hS2 := hS.out.1.later f2
   have hj2 : J k X W2 := HJ.out k X X wr W2 hj.out (f2.mono (fun _ _ h => h.elim)) (fun _ h => .inl h)
   have hsb2 : Box W2 sb (.iface 37 (.pointer (some ⟨qb, 0, none⟩))) := (HS.out.of_block (hKp.out.2 sb (.inr (.inl rfl)))).fr0 f2 id
   have cS := hsb2.cell
   have HD := Lib.hid (do_queue hS2 (by omega) x (Hk.out x (List.mem_of_getElem? hx)) (Hi.out x (List.mem_of_getElem? hx)))
   have Hx := Lib.hid hx
   have HS2 := Lib.hid hS2
   have F2 := Lib.hid f2
   have Hj2 := Lib.hid hj2
   have Hne := Lib.hid hne
   unfold actCV at HD
   clear hcas hx hS2 hj2 hsb2 f2 hne
   subst hW2
   gi_wp2_with fail
   refine (callsIn_wide.2 HD.out).mono ?_
   rintro e W3 ⟨v, ft', rfl, hrow, hl', hft', hnv, hf3⟩
   obtain ⟨va, vc, hv9, _, _⟩ := EsIn.of_own hrow
   obtain ⟨vn, hvn⟩ : ∃ vn, (doC n (stC n E (L.take k)) x).2.evs.length = vn := ⟨_, rfl⟩
   rw [hvn] at hv9
   subst hv9
   clear hvn
   obtain ⟨Tx, hTx⟩ : ∃ Tx, (doC n (stC n E (L.take k)) x).2 = Tx := ⟨_, rfl⟩
   rw [hTx] at hrow ⊢
   rw [← stC_snoc Hx.out] at hl'
   have htl := tlC_at (n := n) (E := E) Hx.out
   rw [hTx] at htl
   obtain ⟨W2, hW2⟩ : ∃ V, wr.alloc (.cells #[.int .u8 x.kind, .int .i64 x.x.key.time, .int .i64 x.x.key.source, .int .i64 x.x.key.seq, .int .i64 x.x.to, .int .i64 x.x.value, .int .i64 x.time] 33) = V := ⟨_, rfl⟩
   rw [hW2] at hrow hft' hf3 HS2 F2 Hj2
   clear hW2 HD
   obtain ⟨Y, hY⟩ : ∃ Y : Nat → Prop, Y = fun j => X j ∨ (W2.heap.size ≤ j ∧ j < W3.heap.size) := ⟨_, rfl⟩
   obtain ⟨Z, hZ⟩ : ∃ Z : Nat → Prop, Z = fun j => Y j ∧ (Value.slice va vn vc).ownBlock ≠ some j := ⟨_, rfl⟩
   have hj3 : J k Y W3 := HJ.out k X Y W2 W3 Hj2.out (hf3.mono (fun j _ h => hS.out.2 j h)) (fun j h => by rw [hY] at h; exact h)
   have hfoot : ∀ j, ft' j → ft j ∨ Z j := fun j hj => by
    have hlt3 := hl'.lt j hj
    have hv := fun e => hnv j e hj
    rcases hft' j hj with h | h
    ·rcases hS.out.2 j h with h | h
     ·exact .inl h
     ·exact .inr (by rw [hZ]; exact ⟨by rw [hY]; exact .inl h, hv⟩)
    ·exact .inr (by rw [hZ]; exact ⟨by rw [hY]; exact .inr ⟨h, hlt3⟩, hv⟩)
   obtain ⟨fn, tmps, assign, body, hyy, hR⟩ := HY.out k ⟨Tx.err, va, vn, vc, Tx.evs⟩ Y Z W3 ⟨htl, ownsRow_k_mono hrow (Nat.zero_le _), fun g hg => ⟨by rw [hY]; exact .inr (hrow.lt g hg), fun hz => by rw [hZ] at hz; exact hz.2 hg⟩, fun j hj => by rw [hZ] at hj; exact hj.1⟩ hj3
   unfold Td.val at hyy
   have HR := Lib.hid hR
   have HLI := Lib.hid hl'
   have HFo := Lib.hid hfoot
   have HF3 := Lib.hid hf3
   have hXY : ∀ j, Z j → W.heap.size ≤ j := fun j hj => by
    rw [hZ] at hj
    have hj := hj.1
    rw [hY] at hj
    rcases hj with h | h
    ·exact hX.out j h
    ·have := hKp.out.1
     have := F2.out.size
     omega
   have HXY := Lib.hid hXY
   have hK3 : Keep (fun b => b = ab ∨ b = sb ∨ ∃ o' s, (some ⟨g2, o, none⟩ : Option Addr) = some ⟨b, o', s⟩ ∧ L ≠ []) W W3 := by
    have hno : ∀ b, b < W.heap.size → ¬ ft b → ¬ fk b := fun b hb h1 h2 => (hS.out.2 b h2).elim h1 (fun h => by have := hX.out b h; omega)
    refine hKp.out.trans (((F2.out.mono (S' := fk) (fun _ _ h => h.elim)).trans hf3).keep (fun b hb => ?_))
    have hsz := hKp.out.1
    rcases hb with rfl | rfl | ⟨o', s, e, h⟩
    ·exact ⟨Nat.lt_of_lt_of_le HA.out.lt hsz, hno _ HA.out.lt Hnab.out⟩
    ·exact ⟨Nat.lt_of_lt_of_le HS.out.lt hsz, hno _ HS.out.lt Hnsb.out⟩
    ·have hb := (HL.out h).lt h b o' s e
     exact ⟨Nat.lt_of_lt_of_le hb hsz, hno _ hb (HNA.out h b o' s e)⟩
   have HK3 := Lib.hid hK3
   clear hrow hl' hft' hnv hf3 htl hj3 hfoot hR hXY hK3 hY hZ hTx
   gi_wp2_with fail
   refine HR.out.mono ?_
   rintro e W4 (⟨rfl, hJ4, hk4⟩ | ⟨rfl, hJx4⟩)
   ·have hli := HLI.out.kept hk4.1 (fun j hj => hk4.2 j ((HFo.out j hj).elim (fun h => .inl (.inr (.inr (.inr h)))) .inr))
    have hkk : Keep (fun b => b = ab ∨ b = sb ∨ ∃ o' s, (some ⟨g2, o, none⟩ : Option Addr) = some ⟨b, o', s⟩ ∧ L ≠ []) W W4 := HK3.out.trans ⟨hk4.1, fun b hb => hk4.2 b (.inl (hb.imp id (fun h => h.imp id .inl)))⟩
    have HLI := Lib.hid hli
    have HKK := Lib.hid hkk
    have HJ4 := Lib.hid hJ4
    clear hli hkk hk4 hJ4
    gi_wp2
    go_roundw
    case rel => exact ⟨k + 1, Z, ft', by omega, by go_num, HJ4, ⟨HLI.out, HFo.out⟩, HKK, HXY⟩
    case measure => simp [Go.RowKit.intOf]; omega
   ·gi_wp2
    refine bodyPost_ret (results_none rfl _ _ _) rfl ?_
    exact ⟨⟨_, rfl⟩, .inr hJx4⟩
  ·have hkm : k = m := by omega
   subst hkm
   have hfin : QueueF qb n (T + k) (stC n E L) ft X wr := ⟨fk, by rw [← List.take_of_length_le (l := L) (i := k) (by rw [Hl.out]; exact Nat.le_refl _)]; exact hS.out.1, hS.out.2⟩
   have HJF := Lib.hid hj.out
   have HFin := Lib.hid hfin
   clear hj hfin
   gi_wp2
   go_end0
   exact ⟨⟨_, rfl⟩, .inl ⟨X, HJF.out, HFin.out⟩⟩
/-
  calendar: Queue.
-/

/-- What Queue returns: the events that the queue has then, what the acts told, the index, the error. -/
def queC (n : Nat) (E : List Ev) (A : List Ca) : List Ev × List Tl × Int × Int := if 0 ≤ oddC A then (E, [], oddC A, 121) else (stC n E A, tlC n E A, -1, 0)
theorem queC_odd {n : Nat} {E : List Ev} {A : List Ca} (h : 0 ≤ oddC A) : queC n E A = (E, [], oddC A, 121) := by unfold queC; rw [if_pos h]
theorem queC_right {n : Nat} {E : List Ev} {A : List Ca} (h : ¬ 0 ≤ oddC A) : queC n E A = (stC n E A, tlC n E A, -1, 0) := by unfold queC; rw [if_neg h]
/-- The end of Queue. -/
def EndQ (qb n T : Nat) (E : List Ev) (A : List Ca) (ft : Nat → Prop) (w : World) (e : Ending) (w' : World) : Prop :=
 ∃ u ys ft', e = .returned (.tuple #[u, .int .i64 (queC n E A).2.2.1, .int .i64 (queC n E A).2.2.2]) ∧ w'.ownsRow w.heap.size 56 2 u (queC n E A).2.1.length (flatTd ys) ∧ TdsOk w' (queC n E A).2.1 ys u w.heap.size ft' ∧ QIs w' qb n T (queC n E A).1 ft' ∧ (∀ k, ft' k → ft k ∨ w.heap.size ≤ k) ∧ (∀ g, u.ownBlock = some g → ¬ ft' g) ∧ Fr0 ft w w'
set_option maxHeartbeats 2000000 in
theorem Queue_any {w : World} {qb n T m ca : Nat} {E : List Ev} {ft : Nat → Prop} {aa : Option Addr} (A : List Ca) (h : QIs w qb n T E ft) (hT : T + m < 4294967295) (hA : CasIn w aa A) (hAl : A.length = m) (hm : m ≤ 100000) (hk : ∀ x ∈ A, 0 ≤ x.kind ∧ x.kind < 256) (hi : ∀ a ∈ A, I64 a.x.name.1 ∧ I64 a.x.name.2) (hna : A ≠ [] → ∀ g o s, aa = some ⟨g, o, s⟩ → ¬ ft g) :
  Calls Tryz.prog 12 #[.pointer (some ⟨qb, 0, none⟩), .slice aa m ca] w fun e w' => EndQ qb n (T + m) E A ft w e w' := by
 have HC := Lib.hid h.copy
 have HQ := Lib.hid h
 have HO := Lib.hid (fun (W : World) (hW : Fr0 none' w W) => odd_any (cap := ca) A (hA.later hW) hAl hm hk)
 have HA := Lib.hid hA
 have HAl := Lib.hid hAl
 have HK := Lib.hid hk
 have HI := Lib.hid hi
 have HNA := Lib.hid hna
 have HT := Lib.hid hT
 clear h hA hAl hk hi hna hT
 go_enter Tryz.func12, Tryz.ntmps12
 go_wp2_with fail
 refine HC.out.mono ?_
 rintro e w1 ⟨cb, fc, rfl, _, _, hf1⟩
 have F1 := Lib.hid hf1
 have HO1 := Lib.hid (HO.out _ hf1)
 clear HO hf1 HC
 obtain ⟨R, hR⟩ : ∃ R, oddC A = R := ⟨_, rfl⟩
 rw [hR] at HO1
 have hR1 : -1 ≤ R := by rw [← hR]; exact oddC_ge A
 by_cases h0 : 0 ≤ R
 ·have Hp := Lib.hid (queC_odd (n := n) (E := E) (A := A) (by rw [hR]; exact h0))
  rw [hR] at Hp
  have d1 : decide (R ≥ 0) = true := decide_eq_true h0
  have d2 : decide (0 ≤ R) = true := decide_eq_true h0
  clear hR h0 hR1
  go_wp2_with fail
  refine HO1.out.mono ?_
  rintro e w2 ⟨rfl, hf⟩
  have F2 := Lib.hid (F1.out.trans hf)
  have HE := Lib.hid (show EndQ qb n (T + m) E A ft w (.returned (.tuple #[.slice none 0 0, .int .i64 R, .int .i64 121])) w2 from by
   unfold EndQ
   rw [Hp.out]
   exact ⟨_, [], ft, rfl, World.ownsRow_nil _ _ _ _, TdsOk.nil _ _ _ _, (HQ.out.later F2.out).mono (Nat.le_add_right _ _), fun k hk => .inl hk, (fun g hg => by cases hg), F2.out.mono (fun _ _ h => h.elim)⟩)
  clear hf
  go_wp2_with fail
  go_ret3
  exact HE.out
 ·have Hp := Lib.hid (queC_right (n := n) (E := E) (A := A) (by rw [hR]; exact h0))
  have HK1 := Lib.hid (oddC_neg (by rw [hR]; exact h0))
  obtain rfl : R = -1 := by omega
  clear hR h0 hR1
  go_wp2_with fail
  refine HO1.out.mono ?_
  rintro e w2 ⟨rfl, hf⟩
  have F2 := Lib.hid (F1.out.trans hf)
  have HTO := Lib.hid (told_any (.pointer (some ⟨qb, 0, none⟩)) 37 aa m ca w2)
  clear hf
  go_wp2_with fail
  refine HTO.out.mono ?_
  rintro e w5 ⟨ab, sb, rfl, hab, hsb, hab0, hsb0, hf5⟩
  have F5 := Lib.hid (F2.out.trans hf5)
  have hq5 := HQ.out.later F5.out
  have hlt := HQ.out.lt
  have hs2 := F2.out.size
  have HCo := Lib.hid (CollectT 69 #[.pointer (some ⟨ab, 0, none⟩), .pointer (some ⟨sb, 0, none⟩)] (tlC n E A) (QueueF qb n (T + m) (stC n E A) ft) ft (fun k => k = ab ∨ k = sb ∨ (∃ o s, aa = some ⟨k, o, s⟩ ∧ A ≠ []) ∨ ft k) w5 (fun _ _ => rfl)
   (by rw [tlC_length, HAl.out]; exact told_queue hq5 HT.out (HA.out.later F5.out) HAl.out hm HK1.out HI.out hab hsb (fun h0 g o s e h => HNA.out h0 g o s e h) (fun h => by have := hlt _ h; omega) (fun h => by have := hlt _ h; omega))
   (fun X W1 W2 S hF hf hS => by obtain ⟨f', h1, h2⟩ := hF; exact ⟨f', h1.fr0 hf (fun k hk => hS k (h2 k hk)), h2⟩)
   (fun k hk => hq5.lt k hk)
   (fun k hk => by
    rcases hk with rfl | rfl | ⟨o, s, e, h0⟩ | hk
    ·exact hab.lt
    ·exact hsb.lt
    ·have := HA.out.lt h0 k o s e; have := F5.out.size; omega
    ·exact hq5.lt k hk)
   (by rw [tlC_length, HAl.out]; omega))
  clear hab hsb hab0 hsb0 hf5 hq5 hlt hs2
  go_wp2_with fail
  refine HCo.out.mono ?_
  rintro e w6 ⟨u, ys, X, rfl, hu, hT, huX, hX0, ⟨ft', hq6, hft'⟩, hf6⟩
  have hul : ∃ a b c, u = .slice a b c := by
   rcases hu.2 with ⟨rfl, _⟩ | ⟨g, cap, cur, rfl, _⟩
   ·exact ⟨_, _, _, rfl⟩
   ·exact ⟨_, _, _, rfl⟩
  obtain ⟨ua, un, uc, rfl⟩ := hul
  have hs5 := F5.out.size
  have HE := Lib.hid (show EndQ qb n (T + m) E A ft w (.returned (.tuple #[.slice ua un uc, .int .i64 (-1), .int .i64 0])) w6 from by
   unfold EndQ
   rw [Hp.out]
   refine ⟨_, ys, ft', rfl, ownsRow_k_mono hu hs5, hT.mono (fun g _ hg => hft' g hg) (fun _ _ _ h => h) hs5, hq6, fun k hk => (hft' k hk).imp id (fun h => by have := hX0 k h; omega), fun g hg hk => ?_, (F5.out.mono (fun _ _ h => h.elim)).trans hf6⟩
   have hg5 := (hu.lt g hg).1
   rcases hft' g hk with h | h
   ·have := HQ.out.lt g h; omega
   ·exact huX g hg h)
  clear hu hT huX hX0 hq6 hft' hf6 hs5
  go_wp2_with fail
  go_ret3
  exact HE.out
/-- A queue within a law: its foot is new, and nothing old has changed. -/
def StQ (w W : World) (qb c T : Nat) (E : List Ev) (ft : Nat → Prop) : Prop := QIs W qb c T E ft ∧ Fr0 none' w W ∧ ∀ k, ft k → w.heap.size ≤ k
theorem StQ.later {w W W' : World} {qb c T : Nat} {E : List Ev} {ft : Nat → Prop} (h : StQ w W qb c T E ft) (hf : Fr0 none' W W') : StQ w W' qb c T E ft := ⟨h.1.later hf, h.2.1.trans hf, h.2.2⟩
theorem StQ.step {w W W' : World} {qb c T T' : Nat} {E E' : List Ev} {ft : Nat → Prop} (h : StQ w W qb c T E ft) (hq : QIs W' qb c T' E' (qgrow ft W W')) (hf : Fr0 ft W W') : StQ w W' qb c T' E' (qgrow ft W W') :=
 ⟨hq, h.2.1.trans' hf (fun i hi hs => by have := h.2.2 i hs; omega), fun k hk => hk.elim (h.2.2 k) (fun g => Nat.le_trans h.2.1.size g.1)⟩
theorem StQ.other {w W W' : World} {qb c T : Nat} {E : List Ev} {ft gt : Nat → Prop} (h : StQ w W qb c T E ft) (h2 : ∀ k, gt k → w.heap.size ≤ k) (hd : ∀ k, ft k → ¬ gt k) (hf : Fr0 gt W W') : StQ w W' qb c T E ft :=
 ⟨h.1.fr0 hf hd, h.2.1.trans' hf (fun i hi hs => by have := h2 i hs; omega), h.2.2⟩
end Go.Proofs.YtieeloealklkgaaGreat

/-
  calendar: Count.
-/
namespace Go.Proofs.YtieeloealklkgaaGreat
open Go Go.RowKit
attribute [local go_sem ↓] Go.wp_at_zero Go.wp_at_succ
attribute [local go_sem] Oper.semAt_some wide_fn wide_depth wide_fnR wide_depthR

/-- How many come from a time to another one. -/
def btwE (f t : Int) (L : List Ev) : Nat := L.countP (fun x => decide (f ≤ x.key.time) && decide (x.key.time < t))
def countC (L : List Ev) (f t : Int) : Int × Int := if AscE L then (((btwE f t L : Nat) : Int), 0) else (0, 110)
theorem btwE_snoc {f t : Int} {L : List Ev} {k : Nat} {x : Ev} (h : L[k]? = some x) : btwE f t (L.take (k + 1)) = btwE f t (L.take k) + (if f ≤ x.key.time ∧ x.key.time < t then 1 else 0) := by
 unfold btwE
 rw [List.take_add_one, h, List.countP_append]
 by_cases h1 : f ≤ x.key.time <;> by_cases h2 : x.key.time < t <;> simp [h1, h2]
theorem btwE_le (f t : Int) (L : List Ev) : btwE f t L ≤ L.length := List.countP_le_length
set_option maxHeartbeats 2000000 in
theorem Count_any {w : World} {a : Option Addr} {n cap : Nat} {f t : Int} (L : List Ev) (h : EsIn w a L) (hl : L.length = n) (hn : n ≤ 10000) :
  Calls Tryz.prog 32 #[.slice a n cap, .int .i64 f, .int .i64 t] w fun e w' => e = .returned (.tuple #[.int .i64 (countC L f t).1, .int .i64 (countC L f t).2]) ∧ Fr0 none' w w' := by
 have HS := Lib.hid (Sorted_any (cap := cap) L h hl hn)
 have H := Lib.hid h
 have Hl := Lib.hid hl
 clear h hl
 by_cases ho : AscE L
 ·rw [show decide (AscE L) = true from decide_eq_true ho] at HS
  have hR : countC L f t = (((btwE f t L : Nat) : Int), 0) := by unfold countC; rw [if_pos ho]
  rw [hR]
  clear ho hR
  simp only
  obtain ⟨R, hR⟩ : ∃ R, btwE f t L = R := ⟨_, rfl⟩
  rw [hR]
  have HR := Lib.hid hR
  clear hR
  go_enter Tryz.func32, Tryz.ntmps32
  go_wp2_with fail
  refine HS.out.mono ?_
  rintro e w1 ⟨rfl, hf⟩
  have F1 := Lib.hid hf
  have H1 := Lib.hid (H.out.later hf)
  clear hf
  go_wp2_with fail
  go_loopw [8, 16] (fun q i wr => ∃ k : Nat, k ≤ n ∧ q = .int .i64 (btwE f t (L.take k) : Nat) ∧ i = .int .i64 k ∧ Hid (Fr0 none' w wr)) (fun _ i _ => n - (Go.RowKit.intOf i).toNat)
  case atStart => exact ⟨0, Nat.zero_le _, by simp [btwE], rfl, F1⟩
  case round =>
   obtain ⟨k, hk, rfl, rfl, hfr⟩ := hrel
   have hql := btwE_le f t (L.take k)
   rw [List.length_take] at hql
   have HSN : ∀ x, L[k]? = some x → btwE f t (L.take (k + 1)) = btwE f t (L.take k) + (if f ≤ x.key.time ∧ x.key.time < t then 1 else 0) := fun x hx => btwE_snoc hx
   obtain ⟨q, hq⟩ : ∃ q, btwE f t (L.take k) = q := ⟨_, rfl⟩
   simp only [hq] at hql HSN ⊢
   have Hq := Lib.hid hq
   clear hq
   by_cases hlt : k < n
   ·obtain ⟨x, hx⟩ : ∃ x, L[k]? = some x := ⟨_, List.getElem?_eq_getElem (by rw [Hl.out]; exact hlt)⟩
    obtain ⟨g, o, rfl, hxc⟩ := (H.out.later hfr.out) k x hx
    obtain ⟨x0, x1, x2, x3, x4⟩ := hxc
    have k1 : (0 : Int) ≤ (k : Int) := by omega
    have k2 : (k : Int) < (n : Int) := by omega
    have hst := HSN x hx
    have HFW := Lib.hid (hfr.out.trans ((Fr0.refl none' wr).alloc (.cells #[.int .i64 x.key.time, .int .i64 x.key.source, .int .i64 x.key.seq, .int .i64 x.to, .int .i64 x.value] 30)))
    clear HSN hx
    by_cases g1 : f ≤ x.key.time
    ·have d1 : decide (f ≤ x.key.time) = true := decide_eq_true g1
     have d1' : decide (x.key.time ≥ f) = true := decide_eq_true g1
     by_cases g2 : x.key.time < t
     ·have d2 : decide (x.key.time < t) = true := decide_eq_true g2
      rw [if_pos ⟨g1, g2⟩] at hst
      have Hst := Lib.hid hst
      clear hst g1 g2
      go_wp2_with fail
      go_roundw
      case rel => exact ⟨k + 1, by omega, by rw [Hst.out]; go_num, by go_num, HFW⟩
      case measure => simp [Go.RowKit.intOf]; omega
     ·have d2 : decide (x.key.time < t) = false := decide_eq_false g2
      rw [if_neg (fun h => g2 h.2), Nat.add_zero] at hst
      have Hst := Lib.hid hst
      clear hst g1 g2
      go_wp2_with fail
      go_roundw
      case rel => exact ⟨k + 1, by omega, by rw [Hst.out, Nat.add_zero], by go_num, HFW⟩
      case measure => simp [Go.RowKit.intOf]; omega
    ·have d1 : decide (f ≤ x.key.time) = false := decide_eq_false g1
     have d1' : decide (x.key.time ≥ f) = false := decide_eq_false g1
     rw [if_neg (fun h => g1 h.1), Nat.add_zero] at hst
     have Hst := Lib.hid hst
     clear hst g1
     go_wp2_with fail
     go_roundw
     case rel => exact ⟨k + 1, by omega, by rw [Hst.out, Nat.add_zero], by go_num, HFW⟩
     case measure => simp [Go.RowKit.intOf]; omega
   ·have hres : (q : Int) = (R : Int) := by
     rw [← HR.out, ← Hq.out, List.take_of_length_le (by rw [Hl.out]; omega)]
    have Hres := Lib.hid hres
    clear hres HSN
    go_wp2_with fail
    go_ret2
    exact ⟨by simp [Hres.out], hfr.out⟩
 ·rw [show decide (AscE L) = false from decide_eq_false ho] at HS
  have hR : countC L f t = (0, 110) := by unfold countC; rw [if_neg ho]
  rw [hR]
  clear ho hR
  go_enter Tryz.func32, Tryz.ntmps32
  go_wp2_with fail
  refine HS.out.mono ?_
  rintro e w1 ⟨rfl, hf⟩
  have F1 := Lib.hid hf
  clear hf
  go_wp2_with fail
  go_ret2
  exact ⟨rfl, F1.out⟩
/-
  calendar: Do.
-/

/-! ### Rows of what was told -/
def TdAt (w : World) (g o : Nat) (y : Td) : Prop := w.cell? ⟨g, o, none⟩ = some (.int .i64 y.err) ∧ w.cell? ⟨g, o + 1, none⟩ = some (.slice y.sa y.sn y.sc)
def TdsIn (w : World) (a : Option Addr) (L : List Td) : Prop := ∀ i x, L[i]? = some x → ∃ g o, a = some ⟨g, o, none⟩ ∧ TdAt w g (o + i * 2) x
theorem TdAt.fr0 {S : Nat → Prop} {w w' : World} {g o : Nat} {x : Td} (h : TdAt w g o x) (hf : Fr0 S w w') (hS : ¬ S g) : TdAt w' g o x := by
 have hl := World.block_lt_of_cell? _ _ h.1
 exact ⟨(hf.cell (p := ⟨g, o, none⟩) hl hS).trans h.1, (hf.cell (p := ⟨g, o + 1, none⟩) hl hS).trans h.2⟩
theorem TdsIn.fr0 {S : Nat → Prop} {w w' : World} {a : Option Addr} {L : List Td} (h : TdsIn w a L) (hf : Fr0 S w w') (hS : ∀ g o s, a = some ⟨g, o, s⟩ → ¬ S g) : TdsIn w' a L := fun i x hx => by
 obtain ⟨g, o, rfl, hc⟩ := h i x hx
 exact ⟨g, o, rfl, hc.fr0 hf (hS g o none rfl)⟩
theorem TdsIn.later {w w' : World} {a : Option Addr} {L : List Td} (h : TdsIn w a L) (hf : Fr0 none' w w') : TdsIn w' a L := h.fr0 hf (fun _ _ _ _ h => h)
theorem td_len : ∀ x : Td, x.cells.length = 2 := fun _ => rfl
theorem flatTd_length (L : List Td) : (flatTd L).length = L.length * 2 := by
 induction L with
 | nil => rfl
 | cons x r ih =>
  have e : flatTd (x :: r) = x.cells ++ flatTd r := rfl
  rw [e, List.length_append, ih, td_len, List.length_cons]; omega
theorem TdsIn.of_flat {w : World} {g o : Nat} {L : List Td} (h : ∀ j u, (flatTd L)[j]? = some u → w.cell? ⟨g, o + j, none⟩ = some u) : TdsIn w (some ⟨g, o, none⟩) L := fun i x hx => by
 refine ⟨g, o, rfl, ?_, ?_⟩
 ·exact h (i * 2) _ (flat_some td_len hx (j := 0) (by omega) rfl)
 ·rw [Nat.add_assoc]; exact h (i * 2 + 1) _ (flat_some td_len hx (j := 1) (by omega) rfl)
theorem TdsIn.of_own {w : World} {base : Nat} {v : Value} {n : Nat} {L : List Td} (h : w.ownsRow base 56 2 v n (flatTd L)) : ∃ a cap, v = .slice a n cap ∧ L.length = n ∧ TdsIn w a L := by
 have hl : L.length = n := by have := h.1; rw [flatTd_length] at this; omega
 rcases h.2 with ⟨rfl, h0⟩ | ⟨g, cap, cur, rfl, hb, hg, hn', hcm, hs, ht⟩
 ·have : L = [] := List.eq_nil_of_length_eq_zero (by omega)
  subst this
  exact ⟨none, 0, by rw [h0], hl, fun i x h => by simp at h⟩
 ·exact ⟨_, cap, rfl, hl, TdsIn.of_flat (fun j u hj => by
   rw [Nat.zero_add, cells_in hg, ← Array.getElem?_toList]
   rw [← ht, List.getElem?_take] at hj
   split at hj
   ·exact hj
   ·cases hj)⟩
/-- What Do tells. -/
noncomputable def doT (L : List Ev) (c : Int) (x : Ca) : Tl := ((playC L c [x]).2.1).headD ⟨0, []⟩
/-- The end of Do. -/
def EndD (L : List Ev) (c : Int) (x : Ca) (w : World) (e : Ending) (w' : World) : Prop :=
 ∃ (v : Value) (y : Td), e = .returned (.tuple #[v, y.val, .int .i64 (playC L c [x]).2.2.2]) ∧ w'.ownsRow w.heap.size 30 5 v (playC L c [x]).1.length (flatEv (playC L c [x]).1) ∧ y.tl = doT L c x ∧ w'.ownsRow w.heap.size 30 5 y.v y.evs.length (flatEv y.evs) ∧ (∀ g, v.ownBlock = some g → y.v.ownBlock ≠ some g) ∧ Fr0 none' w w'
theorem playC_none {L : List Ev} {c : Int} {A : List Ca} (h : (playC L c A).2.2.2 ≠ 0) : (playC L c A).1 = [] ∧ (playC L c A).2.1 = [] := by
 unfold playC at h ⊢
 split
 ·split
  ·exact ⟨rfl, rfl⟩
  ·rename_i h1 h2
   rw [if_pos h1, if_neg h2] at h
   exact absurd rfl h
 ·exact ⟨rfl, rfl⟩
theorem playC_told {L : List Ev} {c : Int} {A : List Ca} (h : (playC L c A).2.2.2 = 0) : RightC L c ∧ (∀ a ∈ A, 1 ≤ a.kind ∧ a.kind ≤ 5) ∧ playC L c A = (stC c.toNat L A, tlC c.toNat L A, -1, 0) := by
 by_cases h1 : RightC L c
 ·by_cases h2 : 0 ≤ oddC A
  ·rw [playC_odd h1 h2] at h
   cases h
  ·exact ⟨h1, oddC_neg h2, playC_right h1 h2⟩
 ·rw [playC_wrong h1] at h
  cases h
set_option maxHeartbeats 2000000 in
theorem Do_any {w : World} {a : Option Addr} {n cap : Nat} {c : Int} (L : List Ev) (x : Ca) (h : EsIn w a L) (hl : L.length = n) (hn : n ≤ 10000) (hcap : n ≤ cap) (hk : 0 ≤ x.kind ∧ x.kind < 256) :
  Calls Tryz.prog 17 #[.slice a n cap, .int .i64 c, actCV x] w fun e w' => EndD L c x w e w' := by
 obtain ⟨W3, hW3⟩ : ∃ V, ((w.alloc (.cells #[.int .u8 x.kind, .int .i64 x.x.key.time, .int .i64 x.x.key.source, .int .i64 x.x.key.seq, .int .i64 x.x.to, .int .i64 x.x.value, .int .i64 x.time] 33)).alloc (.cells #[.int .i64 0, .slice none 0 0] 56)).alloc (.cells #[.int .u8 x.kind, .int .i64 x.x.key.time, .int .i64 x.x.key.source, .int .i64 x.x.key.seq, .int .i64 x.x.to, .int .i64 x.x.value, .int .i64 x.time] 33) = V := ⟨_, rfl⟩
 have f3 : Fr0 none' w W3 := by rw [← hW3]; exact (((Fr0.refl _ _).alloc _).alloc _).alloc _
 have b3 : W3.heap[w.heap.size + 1]? = some (.cells #[.int .i64 0, .slice none 0 0] 56 (0, 0)) := by
  have h1 := World.alloc_heap_new (w.alloc (.cells #[.int .u8 x.kind, .int .i64 x.x.key.time, .int .i64 x.x.key.source, .int .i64 x.x.key.seq, .int .i64 x.x.to, .int .i64 x.x.value, .int .i64 x.time] 33)) (.cells #[.int .i64 0, .slice none 0 0] 56)
  rw [World.size_alloc] at h1
  rw [← hW3]
  exact (((Fr0.refl none' _).alloc _).block (w.heap.size + 1) (by rw [World.size_alloc, World.size_alloc]; omega) id).trans h1
 have a3 : W3.heap[w.heap.size + 1 + 1]? = some (.cells #[.int .u8 x.kind, .int .i64 x.x.key.time, .int .i64 x.x.key.source, .int .i64 x.x.key.seq, .int .i64 x.x.to, .int .i64 x.x.value, .int .i64 x.time] 33 (0, 0)) := by
  have := World.alloc_heap_new ((w.alloc (.cells #[.int .u8 x.kind, .int .i64 x.x.key.time, .int .i64 x.x.key.source, .int .i64 x.x.key.seq, .int .i64 x.x.to, .int .i64 x.x.value, .int .i64 x.time] 33)).alloc (.cells #[.int .i64 0, .slice none 0 0] 56)) (.cells #[.int .u8 x.kind, .int .i64 x.x.key.time, .int .i64 x.x.key.source, .int .i64 x.x.key.seq, .int .i64 x.x.to, .int .i64 x.x.value, .int .i64 x.time] 33)
  rw [hW3, World.size_alloc, World.size_alloc] at this
  exact this
 have s3 : W3.heap.size = w.heap.size + 1 + 1 + 1 := by rw [← hW3, World.size_alloc, World.size_alloc, World.size_alloc]
 have hcas : CasIn W3 (some ⟨w.heap.size + 1 + 1, 0, none⟩) [x] := fun i y hy => by
  cases i with
  | zero =>
   obtain rfl : x = y := by simpa using hy
   exact ⟨_, _, rfl, cells_in a3 0, cells_in a3 1, cells_in a3 2, cells_in a3 3, cells_in a3 4, cells_in a3 5, cells_in a3 6⟩
  | succ i => simp at hy
 have HP := Lib.hid (Play_any (c := c) (m := 1) (ca := 1) L [x] (h.later f3) hl hn hcap hcas rfl (by omega) (by simpa using hk))
 have B3 := Lib.hid b3
 have S3 := Lib.hid s3
 have F3 := Lib.hid f3
 clear h hl hk f3 b3 a3 s3 hcas
 unfold actCV
 go_enter Tryz.func17, Tryz.ntmps17
 subst hW3
 go_wp2_with fail
 refine HP.out.mono ?_
 obtain ⟨W3, hW3⟩ : ∃ V, ((w.alloc (.cells #[.int .u8 x.kind, .int .i64 x.x.key.time, .int .i64 x.x.key.source, .int .i64 x.x.key.seq, .int .i64 x.x.to, .int .i64 x.x.value, .int .i64 x.time] 33)).alloc (.cells #[.int .i64 0, .slice none 0 0] 56)).alloc (.cells #[.int .u8 x.kind, .int .i64 x.x.key.time, .int .i64 x.x.key.source, .int .i64 x.x.key.seq, .int .i64 x.x.to, .int .i64 x.x.value, .int .i64 x.time] 33) = V := ⟨_, rfl⟩
 rw [hW3] at B3 S3 F3 ⊢
 clear hW3 HP
 rintro e w1 ⟨v, u, ys, rfl, hv, hu, hT, hd, hf⟩
 have b1 := (hf.block (w.heap.size + 1) (by rw [S3.out]; omega) id).trans B3.out
 obtain ⟨va, vc, hve, _, _⟩ := EsIn.of_own hv
 obtain ⟨ua, uc, hue, hul, hui⟩ := TdsIn.of_own hu
 obtain ⟨f, hf0⟩ : ∃ f, (playC L c [x]).2.2.2 = f := ⟨_, rfl⟩
 obtain ⟨i, hi0⟩ : ∃ i, (playC L c [x]).2.2.1 = i := ⟨_, rfl⟩
 obtain ⟨vn, hvn⟩ : ∃ i, (playC L c [x]).1.length = i := ⟨_, rfl⟩
 rw [hf0, hi0]
 rw [hvn] at hve
 by_cases h0 : f = 0
 ·rw [h0] at hf0 ⊢
  obtain ⟨hrc, hkk, hp⟩ := playC_told hf0
  rw [hp] at hul
  obtain ⟨y, rfl⟩ : ∃ y, ys = [y] := by
   cases ys with
   | nil => simp [tlC] at hul
   | cons y r =>
    cases r with
    | nil => exact ⟨y, rfl⟩
    | cons z r => simp [tlC] at hul
  obtain ⟨g, o, rfl, t0, t1⟩ := hui 0 y rfl
  have hty : y.tl = doT L c x := by
   have := hT.tl
   rw [hp] at this
   unfold doT
   rw [hp]
   simp [tlC] at this ⊢
   exact this
  have hyr := hT.row y (by simp)
  have hyo := hT.out y (by simp)
  subst hve
  have hun : (playC L c [x]).2.1.length = 1 := by rw [hp]; simp [tlC_length]
  rw [hun] at hue
  subst hue
  rw [Nat.zero_mul, Nat.add_zero] at t0 t1
  have hgt : g ≠ w.heap.size + 1 := fun e => by
   have := (hu.lt g rfl).1
   have := S3.out; omega
  have HZ := Lib.hid (fun (W' : World) (hfz : Fr0 (fun k => k = w.heap.size + 1) w1 W') => (⟨(hfz.cell (p := ⟨g, o, none⟩) (World.block_lt_of_cell? _ _ t0) hgt).trans t0, (hfz.cell (p := ⟨g, o + 1, none⟩) (World.block_lt_of_cell? _ _ t1) hgt).trans t1⟩ : W'.cell? ⟨g, o, none⟩ = some (.int .i64 y.err) ∧ W'.cell? ⟨g, o + 1, none⟩ = some (.slice y.sa y.sn y.sc)))
  have B1 := Lib.hid b1
  have HV := Lib.hid hv
  have HY := Lib.hid hyr
  have HYO := Lib.hid hyo
  have HTY := Lib.hid hty
  have HD := Lib.hid hd
  have HF := Lib.hid hf
  have HF0 := Lib.hid hf0
  clear b1 hv hyr hyo hty hd hf hu hT hui hul t0 t1 hf0 h0 hkk hrc hgt
  go_wp2_with fail
  refine wp_region_held_drew (S := fun W' => Fr0 (fun k => k = w.heap.size + 1) w1 W') (by kernel_rfl) ((Fr0.refl _ w1).drew) (fun hHeld => ?_)
  refine tk0 (i := 0) (v := .slice va vn vc) ?_
  try simp only[pUt,pUn,sEt,sEz,sEs]
  refine tk0 (i := 1) (v := .slice (some ⟨g, o, none⟩) 1 uc) ?_
  try simp only[pUt,pUn,sEt,sEz,sEs]
  refine tk0 (i := 2) (v := .pointer (some ⟨g, o, none⟩)) ?_
  try simp only[pUt,pUn,sEt,sEz,sEs]
  refine tkn (i := 3) (v := .agg #[.int .i64 y.err, .slice y.sa y.sn y.sc]) (fun W' hSW => ?_) ?_
  ·obtain ⟨t0, t1⟩ := HZ.out W' hSW
   first|go_simp;done|exact rfl|go_simp;rfl|go_simp;omega
  try simp only[pUt,pUn,sEt,sEz,sEs]
  refine tk0 (i := 4) (v := .slice va vn vc) ?_
  try simp only[pUt,pUn,sEt,sEz,sEs]
  have b2 := ((Fr0.refl none' w1).drew.block (w.heap.size + 1) (Array.getElem?_eq_some_iff.1 B1.out).1 id).trans B1.out
  have th0 := thaw_in b2 0
  have th1 := thaw_in b2 1
  have c0 := cells_in B1.out 0
  have c1 := cells_in B1.out 1
  simp at c0 c1
  have u0 := thaw_in B1.out 0
  have u1 := thaw_in B1.out 1
  clear b2
  refine take_call (i := 5) rfl (by kernel_rfl) (by kernel_rfl) (fun K hK => ?_)
  go_simp
  have e5 : ((w1.setCell ⟨w.heap.size + 1, 0, none⟩ (.int .i64 y.err)).setCell ⟨w.heap.size + 1, 1, none⟩ (.slice y.sa y.sn y.sc)).heap[w.heap.size + 1]? = some (.cells #[.int .i64 y.err, .slice y.sa y.sn y.sc] 56 (0, 0)) := heap_set_cell (heap_set_cell B1.out _) _
  have f5 : Fr0 (fun k => k = w.heap.size + 1) w1 ((w1.setCell ⟨w.heap.size + 1, 0, none⟩ (.int .i64 y.err)).setCell ⟨w.heap.size + 1, 1, none⟩ (.slice y.sa y.sn y.sc)) := ((Fr0.refl (fun k => k = w.heap.size + 1) w1).setCell (fun _ => rfl) _).setCell (fun _ => rfl) _
  have e6 := ((Fr0.refl none' ((w1.setCell ⟨w.heap.size + 1, 0, none⟩ (.int .i64 y.err)).setCell ⟨w.heap.size + 1, 1, none⟩ (.slice y.sa y.sn y.sc))).drew.block (w.heap.size + 1) (Array.getElem?_eq_some_iff.1 e5).1 id).trans e5
  have F6 := Lib.hid f5.drew
  have E6 := Lib.hid e6
  clear e5 f5 e6 c0 c1 th0 th1 u0 u1
  refine hK.out _ _ F6.out (fun hHeld => ?_)
  clear hK K
  try simp only[pUt,pUn,sEt,sEz,sEs]
  refine tk0 (i := 6) (v := .int .i64 0) ?_
  try simp only[pUt,pUn,sEt,sEz,sEs]
  refine wpAnyH_done (by kernel_rfl) ?_ _
  clear hHeld
  generalize ((w1.setCell ⟨w.heap.size + 1, 0, none⟩ (.int .i64 y.err)).setCell ⟨w.heap.size + 1, 1, none⟩ (.slice y.sa y.sn y.sc)).drew = VV at F6 E6 ⊢
  go_wp2_with fail
  have y0 := cells_in E6.out 0
  have y1 := cells_in E6.out 1
  simp at y0 y1
  have hs := F3.out.size
  have hsw := S3.out
  refine bodyPost_ret (v := .tuple #[.slice va vn vc, y.val, .int .i64 0]) (by simp [results, Tryz.results17, go_sem, y0, y1, Td.val]) rfl ⟨_, y, by rw [HF0.out], ?_, HTY.out, ?_, fun g hg e => (HYO.out g e).1 hg, (F3.out.trans HF.out).trans' F6.out (fun k hk h => by have h : k = w.heap.size + 1 := h; omega)⟩
  ·exact ownsRow_k_mono (ownsRow_fr0 HV.out F6.out (fun g hg h => by have := (HV.out.lt g hg).1; have h : g = w.heap.size + 1 := h; omega)) (by omega)
  ·exact ownsRow_k_raise (ownsRow_fr0 HY.out F6.out (fun g hg h => by have := (HYO.out g hg).2.2; have h : g = w.heap.size + 1 := h; omega)) (fun g hg => by have := (HYO.out g hg).2.2; omega)
 ·obtain ⟨hn1, hn2⟩ := playC_none (by rw [hf0]; exact h0)
  obtain ⟨un, hun⟩ : ∃ k, (playC L c [x]).2.1.length = k := ⟨_, rfl⟩
  rw [hun] at hue
  subst hve
  subst hue
  have B1 := Lib.hid b1
  have HF := Lib.hid hf
  have HF0 := Lib.hid hf0
  have HN1 := Lib.hid hn1
  have HN2 := Lib.hid hn2
  have HV := Lib.hid hv
  have d1 : (f == 0) = false := beq_eq_false_iff_ne.2 h0
  have c0 := cells_in B1.out 0
  have c1 := cells_in B1.out 1
  simp at c0 c1
  have u0 := thaw_in B1.out 0
  have u1 := thaw_in B1.out 1
  clear b1 hv hd hf hu hT hui hul hf0 h0 hun hvn hi0 hn1 hn2
  go_wp2_with fail
  have e5 : ((w1.setCell ⟨w.heap.size + 1, 0, none⟩ (.int .i64 0)).setCell ⟨w.heap.size + 1, 1, none⟩ (.slice none 0 0)).heap[w.heap.size + 1]? = some (.cells #[.int .i64 0, .slice none 0 0] 56 (0, 0)) := heap_set_cell (heap_set_cell B1.out _) _
  have f5 : Fr0 (fun k => k = w.heap.size + 1) w1 ((w1.setCell ⟨w.heap.size + 1, 0, none⟩ (.int .i64 0)).setCell ⟨w.heap.size + 1, 1, none⟩ (.slice none 0 0)) := ((Fr0.refl (fun k => k = w.heap.size + 1) w1).setCell (fun _ => rfl) _).setCell (fun _ => rfl) _
  generalize ((w1.setCell ⟨w.heap.size + 1, 0, none⟩ (.int .i64 0)).setCell ⟨w.heap.size + 1, 1, none⟩ (.slice none 0 0)) = VV at e5 f5 ⊢
  have y0 := cells_in e5 0
  have y1 := cells_in e5 1
  simp at y0 y1
  have hs := F3.out.size
  have hsw := S3.out
  refine bodyPost_ret (v := .tuple #[.slice none 0 0, .agg #[.int .i64 0, .slice none 0 0], .int .i64 f]) (by simp [results, Tryz.results17, go_sem, y0, y1]) rfl ⟨_, ⟨0, none, 0, 0, []⟩, by rw [HF0.out]; rfl, ?_, by unfold doT; rw [HN2.out]; rfl, World.ownsRow_nil _ _ _ _, (fun g hg e => by cases hg), (F3.out.trans HF.out).trans' f5 (fun k hk h => by have h : k = w.heap.size + 1 := h; omega)⟩
  rw [HN1.out]
  exact World.ownsRow_nil _ _ _ _
end Go.Proofs.YtieeloealklkgaaGreat

/-
  slices.Sort and slices.Compact at a row of ints.
-/
namespace Go.Proofs.YtieeloealklkgaaGreat
open Go Go.RowKit Go.Sort

theorem fr_putR {enc : Int → Value} {w : World} {g q : Nat} {d : Array Int} : Fr0 (fun k => k = g) w (putRow enc (Sort.ahead w q) g 0 d) := by
 refine ⟨rfl, rfl, rfl, by simp [putRow, mapBlock, Sort.ahead], fun k hk hs => ?_⟩
 simp [putRow, mapBlock, Sort.ahead, Array.getElem?_modify, show g ≠ k from fun e => hs e.symm]
theorem compact_row {w : World} {base g cap n : Nat} (L : List Int) (h : w.ownsRow base 3 1 (.slice (some ⟨g, 0, none⟩) n cap) n (L.map (Value.int .i64))) (hn : n ≤ 1000000) :
  Calls Tryz.prog 65 #[.slice (some ⟨g, 0, none⟩) n cap] w fun e w' => e = .returned (.slice (some ⟨g, 0, none⟩) (Lib.compact L).length cap) ∧ w'.ownsRow base 3 1 (.slice (some ⟨g, 0, none⟩) (Lib.compact L).length cap) (Lib.compact L).length ((Lib.compact L).map (Value.int .i64)) ∧ Fr0 (fun k => k = g) w w' := by
 obtain ⟨g', cap', hv, _, hlt, hcap, _, hl, hH⟩ := Lib.holds_of_ownsRow h (by intro e; cases e)
 injection hv with h1 _ h3
 injection h1 with h1
 injection h1 with h1
 subst h1
 subst h3
 have hc := Tryz.slices_Compact_int g 0 cap L w hH (by omega) (by omega)
 rw [hl] at hc
 refine hc.mono ?_
 rintro e w' ⟨rfl, q, rfl⟩
 have hle : (Lib.compact L).length ≤ n := by
  unfold Lib.compact Lib.compactUpTo
  rw [List.length_map]
  refine Nat.le_trans (List.length_filter_le _ _) ?_
  rw [List.length_range, hl]
  exact Nat.le_refl _
 have hp := Lib.ownsRow_putRow (q := q) (ys := Lib.compact L ++ List.replicate (n - (Lib.compact L).length) 0) h (by rw [List.length_append, List.length_replicate]; omega) hle
 rw [List.take_left' rfl] at hp
 exact ⟨rfl, hp, fr_putR⟩
end Go.Proofs.YtieeloealklkgaaGreat

/-
  calendar: Times.
-/
namespace Go.Proofs.YtieeloealklkgaaGreat
open Go Go.RowKit
attribute [local go_sem ↓] Go.wp_at_zero Go.wp_at_succ
attribute [local go_sem] Oper.semAt_some wide_fn wide_depth wide_fnR wide_depthR

theorem info_intC : (Tryz.prog.info? 3).map (fun i => (i.zero, i.size, i.bytes)) = some (some (.int .i64 0), 1, 8) := by kernel_rfl
def timesE (L : List Ev) : List Int := L.map (·.key.time)
/-- The times, each once. -/
def timesC (L : List Ev) : List Int := Lib.compact (timesE L)
theorem timesE_snoc {L : List Ev} {k : Nat} {x : Ev} (h : L[k]? = some x) : (timesE (L.take (k + 1))).map (Value.int .i64) = (timesE (L.take k)).map (Value.int .i64) ++ [Value.int .i64 x.key.time] := by
 unfold timesE
 rw [List.take_add_one, h]
 simp
theorem Compact_zeroI (a : Option Addr) (cap : Nat) (w : World) : Calls Tryz.prog 65 #[.slice a 0 cap] w fun e w' => e = .returned (.slice a 0 cap) ∧ w = w' := by
 go_enter Tryz.func65, Tryz.ntmps65
 go_wp2
 go_ret
 exact ⟨rfl, rfl⟩
set_option maxHeartbeats 2000000 in
theorem Times_any {w : World} {a : Option Addr} {n cap : Nat} (L : List Ev) (h : EsIn w a L) (hl : L.length = n) (hn : n ≤ 10000) :
  Calls Tryz.prog 33 #[.slice a n cap] w fun e w' => ∃ v, e = .returned (.tuple #[v, .int .i64 (if AscE L then 0 else 110)]) ∧ w'.ownsRow w.heap.size 3 1 v (if AscE L then (timesC L).length else 0) ((if AscE L then timesC L else []).map (Value.int .i64)) ∧ Fr0 none' w w' := by
 obtain ⟨i0, hi, hz0, hz1, hz2⟩ := info_parts info_intC
 have HS := Lib.hid (Sorted_any (cap := cap) L h hl hn)
 have H := Lib.hid h
 have Hl := Lib.hid hl
 obtain ⟨N, hN⟩ : ∃ N, w.heap.size = N := ⟨_, rfl⟩
 have HN := Lib.hid hN
 rw [hN]
 clear h hl hN
 by_cases ho : AscE L
 ·rw [show decide (AscE L) = true from decide_eq_true ho] at HS
  simp only [if_pos ho]
  clear ho
  go_enter Tryz.func33, Tryz.ntmps33
  go_wp2_with fail
  refine HS.out.mono ?_
  rintro e w1 ⟨rfl, hf⟩
  have F1 := Lib.hid hf
  have H1 := Lib.hid (H.out.later hf)
  clear hf
  go_wp2_with fail
  go_loopw [4, 12] (fun out i wr => ∃ k : Nat, k ≤ n ∧ i = .int .i64 k ∧ Hid (wr.ownsRow N 3 1 out k ((timesE (L.take k)).map (Value.int .i64))) ∧ Hid (Fr0 none' w wr)) (fun _ i _ => n - (Go.RowKit.intOf i).toNat)
  case atStart => exact ⟨0, Nat.zero_le _, rfl, World.ownsRow_nil _ _ _ _, F1⟩
  case round =>
   obtain ⟨k, hk, rfl, hown, hfr⟩ := hrel
   by_cases hlt : k < n
   ·obtain ⟨x, hx⟩ : ∃ x, L[k]? = some x := ⟨_, List.getElem?_eq_getElem (by rw [Hl.out]; exact hlt)⟩
    obtain ⟨g, o, rfl, hxc⟩ := (H.out.later hfr.out) k x hx
    obtain ⟨x0, x1, x2, x3, x4⟩ := hxc
    have k1 : (0 : Int) ≤ (k : Int) := by omega
    have k2 : (k : Int) < (n : Int) := by omega
    have hsrc := Src.newRow (P := Tryz.prog) (size := 1) (tx := 35) (ty := 3) (wr.alloc (.cells #[.int .i64 x.key.time, .int .i64 x.key.source, .int .i64 x.key.seq, .int .i64 x.to, .int .i64 x.value] 30)) Tryz.underlying35 1 1 [.int .i64 x.key.time] rfl (by simp [Value.oneCell'])
    rw [World.size_alloc] at hsrc
    have hNr : N ≤ wr.heap.size := by rw [← HN.out]; exact hfr.out.size
    have Hst := Lib.hid (timesE_snoc hx)
    have Hown2 := Lib.hid ((hown.out.alloc (.cells #[.int .i64 x.key.time, .int .i64 x.key.source, .int .i64 x.key.seq, .int .i64 x.to, .int .i64 x.value] 30)).alloc (.cells [Value.int .i64 x.key.time].toArray 3))
    have Fr2 := Lib.hid ((hfr.out.alloc (.cells #[.int .i64 x.key.time, .int .i64 x.key.source, .int .i64 x.key.seq, .int .i64 x.to, .int .i64 x.value] 30)).alloc (.cells [Value.int .i64 x.key.time].toArray 3))
    have Hsrc := Lib.hid hsrc
    obtain ⟨va, vc, rfl⟩ : ∃ va vc, u4 = .slice va k vc := by
     rcases hown.out.2 with ⟨rfl, h0⟩ | ⟨g, cap, cur, rfl, _⟩
     ·exact ⟨none, 0, by rw [h0]⟩
     ·exact ⟨_, cap, rfl⟩
    clear hx hsrc hown hfr
    go_wp2_with (at_builtin; refine wpList_append_k rfl _ _ 35 35 rfl N 3 i0 (.int .i64 0) 1 8 Tryz.underlying35 hi hz0 hz1 hz2 rfl (by decide) _ k _ rfl Hown2.out (.slice (some ⟨wr.heap.size + 1, 0, none⟩) 1 1) 1 _ rfl Hsrc.out (by unfold maxLen; omega) (by omega) (by simp; omega) ?_; intro v' w2 hown' hgrow hdr hob)
    have Hfin := Lib.hid (Fr2.out.grown hgrow (fun j hj hl => by
     have h1 := (Hown2.out.lt j hj).1
     rw [HN.out] at hl; omega))
    rw [← Hst.out] at hown'
    have Hown' := Lib.hid hown'
    obtain ⟨g', cap', rfl⟩ := ownsRow_k_succ hown'
    clear hgrow hdr hob hown'
    go_wp2
    go_roundw
    case rel => exact ⟨k + 1, by omega, by go_num, Hown', Hfin⟩
    case measure => simp [Go.RowKit.intOf]; omega
   ·have hkm : k = n := by omega
    subst hkm
    have hfin : wr.ownsRow N 3 1 u4 k ((timesE L).map (Value.int .i64)) := by
     have h1 := hown.out
     rw [List.take_of_length_le (by rw [Hl.out]; exact Nat.le_refl _)] at h1
     exact h1
    have Hf := Lib.hid hfin
    rcases hfin.2 with ⟨rfl, h0⟩ | ⟨g, cu, cur, rfl, _⟩
    ·have hLn : Hid (timesC L = []) := by
      have : L = [] := List.eq_nil_of_length_eq_zero (by rw [Hl.out]; exact h0)
      rw [this]; rfl
     have HZ := Lib.hid (Compact_zeroI none 0 wr)
     clear hown hfin h0
     go_wp2_with fail
     refine HZ.out.mono ?_
     rintro e w2 ⟨rfl, rfl⟩
     go_wp2_with fail
     go_ret2
     exact ⟨_, rfl, by rw [hLn.out]; exact World.ownsRow_nil _ _ _ _, hfr.out⟩
    ·have HC := Lib.hid (compact_row (timesE L) hfin (by omega))
     have Hlt := Lib.hid hfin.lt
     clear hown hfin
     go_wp2_with fail
     refine HC.out.mono ?_
     rintro e w2 ⟨rfl, hrow, hf2⟩
     have HR := Lib.hid hrow
     have HF := Lib.hid (hfr.out.trans' hf2 (fun k hk h => by have h1 := (Hlt.out g rfl).1; have h : k = g := h; rw [← HN.out] at h1; omega))
     clear hrow hf2
     go_wp2_with fail
     go_ret2
     exact ⟨_, rfl, HR.out, HF.out⟩
 ·rw [show decide (AscE L) = false from decide_eq_false ho] at HS
  simp only [if_neg ho]
  clear ho
  go_enter Tryz.func33, Tryz.ntmps33
  go_wp2_with fail
  refine HS.out.mono ?_
  rintro e w1 ⟨rfl, hf⟩
  have F1 := Lib.hid hf
  clear hf
  go_wp2_with fail
  go_ret2
  exact ⟨_, rfl, World.ownsRow_nil _ _ _ _, F1.out⟩
/-
  The reference's Sorted, Count, Times.
-/

set_option maxHeartbeats 2000000 in
theorem rSorted_any {w : World} {a : Option Addr} {n cap : Nat} (L : List Ev) (h : EsIn w a L) (hl : L.length = n) (hn : n ≤ 10000) :
  Calls Tryz.prog 66 #[.slice a n cap] w fun e w' => e = .returned (.bool (decide (AscE L))) ∧ Fr0 none' w w' := by
 have H := Lib.hid h
 have Hl := Lib.hid hl
 obtain ⟨R, hR⟩ : ∃ R, decide (AscE L) = R := ⟨_, rfl⟩
 rw [hR]
 have HR := Lib.hid hR
 clear h hl hR
 go_enter Tryz.func66, Tryz.ntmps66
 go_wp2_with fail
 go_loopw [3] (fun i wr => ∃ k : Nat, 1 ≤ k ∧ (k ≤ n ∨ k = 1) ∧ i = .int .i64 k ∧ Hid (∀ j x y, j + 1 < k → L[j]? = some x → L[j + 1]? = some y → cmpK x.key y.key < 0) ∧ Hid (Fr0 none' w wr)) (fun i _ => n - (Go.RowKit.intOf i).toNat)
 case atStart => exact ⟨1, Nat.le_refl _, .inr rfl, rfl, fun j x y hj => by omega, Fr0.refl _ _⟩
 case round =>
  obtain ⟨k, hk1, hkn, rfl, hpre, hfr⟩ := hrel
  by_cases hlt : k < n
  ·obtain ⟨y, hy⟩ : ∃ y, L[k]? = some y := ⟨_, List.getElem?_eq_getElem (by rw [Hl.out]; exact hlt)⟩
   obtain ⟨x, hx⟩ : ∃ y, L[k - 1]? = some y := ⟨_, List.getElem?_eq_getElem (by rw [Hl.out]; omega)⟩
   obtain ⟨g2, o, rfl, hyc⟩ := H.out k y hy
   obtain ⟨g3, o3, e3, hxc⟩ := H.out (k - 1) x hx
   injection e3 with e3
   injection e3 with e3 e4
   subst e3 e4
   have HY := Lib.hid (hyc.later hfr.out)
   have HX := Lib.hid (hxc.later hfr.out)
   have Hy := Lib.hid hy
   have Hx := Lib.hid hx
   have k1 : (0 : Int) ≤ (k : Int) := by omega
   have k2 : (k : Int) < (n : Int) := by omega
   obtain ⟨j, hj⟩ : ∃ j, k - 1 = j := ⟨_, rfl⟩
   rw [hj] at HX Hx
   have hkj : k = j + 1 := by omega
   have hj1 : (k : Int) - 1 = (j : Int) := by omega
   have k3 : (0 : Int) ≤ (j : Int) := by omega
   have k4 : (j : Int) < (n : Int) := by omega
   have k5 : IntKind.i64.wrap ((k : Int) - 1) = (j : Int) := by rw [hj1]; exact IntWalk.i64_in _ (by omega)
   have HLs := Lib.hid (fun (W : World) => rLess_any x.key y.key W)
   simp only [keyV] at HLs
   have Hkj := Lib.hid hkj
   clear hx hxc hy hyc hj hj1 hkj
   by_cases hb : cmpK x.key y.key < 0
   ·rw [show decide (cmpK x.key y.key < 0) = true from decide_eq_true hb] at HLs
    have hnext := Lib.hid (show ∀ j' x' y', j' + 1 < k + 1 → L[j']? = some x' → L[j' + 1]? = some y' → cmpK x'.key y'.key < 0 from fun j' x' y' hj' hx' hy' => by
     by_cases h : j' + 1 < k
     ·exact hpre.out j' x' y' h hx' hy'
     ·have e : j' = j := by have := Hkj.out; omega
      subst e
      rw [Hx.out] at hx'
      rw [← Hkj.out, Hy.out] at hy'
      injection hx' with hx'
      injection hy' with hy'
      rw [← hx', ← hy']; exact hb)
    clear hb
    go_wp2_with fail
    refine wp_region_held_drew (S := fun W' => Fr0 none' wr W') (by kernel_rfl) ((Fr0.refl none' wr).drew) (fun hHeld => ?_)
    refine tk0 (i := 0) (v := .slice (some ⟨g2, o, none⟩) n cap) ?_
    try simp only[pUt,pUn,sEt,sEz,sEs]
    refine tk0 (i := 1) (v := .int .i64 (k : Int)) ?_
    try simp only[pUt,pUn,sEt,sEz,sEs]
    refine tk0 (i := 2) (v := .int .i64 (j : Int)) ?_
    try simp only[pUt,pUn,sEt,sEz,sEs]
    refine tk0 (i := 3) (v := .pointer (some ⟨g2, o + j * 5, none⟩)) ?_
    try simp only[pUt,pUn,sEt,sEz,sEs]
    refine tk0 (i := 4) (v := .pointer (some ⟨g2, o + j * 5, none⟩)) ?_
    try simp only[pUt,pUn,sEt,sEz,sEs]
    refine tkn (i := 5) (v := .agg #[.int .i64 x.key.time, .int .i64 x.key.source, .int .i64 x.key.seq]) (fun W' hSW => ?_) ?_
    ·obtain ⟨x0, x1, x2, x3, x4⟩ := HX.out.later hSW
     first|go_simp;done|exact rfl|go_simp;rfl|go_simp;omega
    try simp only[pUt,pUn,sEt,sEz,sEs]
    refine tk0 (i := 6) (v := .slice (some ⟨g2, o, none⟩) n cap) ?_
    try simp only[pUt,pUn,sEt,sEz,sEs]
    refine tk0 (i := 7) (v := .int .i64 (k : Int)) ?_
    try simp only[pUt,pUn,sEt,sEz,sEs]
    refine tk0 (i := 8) (v := .pointer (some ⟨g2, o + k * 5, none⟩)) ?_
    try simp only[pUt,pUn,sEt,sEz,sEs]
    refine tk0 (i := 9) (v := .pointer (some ⟨g2, o + k * 5, none⟩)) ?_
    try simp only[pUt,pUn,sEt,sEz,sEs]
    refine tkn (i := 10) (v := .agg #[.int .i64 y.key.time, .int .i64 y.key.source, .int .i64 y.key.seq]) (fun W' hSW => ?_) ?_
    ·obtain ⟨x0, x1, x2, x3, x4⟩ := HY.out.later hSW
     first|go_simp;done|exact rfl|go_simp;rfl|go_simp;omega
    try simp only[pUt,pUn,sEt,sEz,sEs]
    refine take_call (i := 11) rfl (by kernel_rfl) (by kernel_rfl) (fun K hK => ?_)
    go_simp
    refine (HLs.out _).mono ?_
    rintro e wA ⟨rfl, hfA⟩
    have FA := Lib.hid (hHeld.trans hfA)
    clear hfA
    go_wp2_with fail
    refine hK.out _ _ FA.out (fun hHeld => ?_)
    clear hK K
    try simp only[pUt,pUn,sEt,sEz,sEs]
    refine tk0 (i := 12) (v := .bool false) ?_
    try simp only[pUt,pUn,sEt,sEz,sEs]
    refine wpAnyH_done (by kernel_rfl) ?_ _
    have FE := Lib.hid (hfr.out.trans hHeld)
    clear hHeld
    go_wp2_with fail
    go_roundw
    case rel => exact ⟨k + 1, by omega, .inl (by omega), by go_num, hnext, FE⟩
    case measure => simp [Go.RowKit.intOf]; omega
   ·rw [show decide (cmpK x.key y.key < 0) = false from decide_eq_false hb] at HLs
    have hres := Lib.hid (show false = R by
     rw [← HR.out]
     exact (decide_eq_false (fun ha => hb (asc_adj.1 ha j x y Hx.out (by rw [← Hkj.out]; exact Hy.out)))).symm)
    clear hb
    go_wp2_with fail
    refine wp_region_held_drew (S := fun W' => Fr0 none' wr W') (by kernel_rfl) ((Fr0.refl none' wr).drew) (fun hHeld => ?_)
    refine tk0 (i := 0) (v := .slice (some ⟨g2, o, none⟩) n cap) ?_
    try simp only[pUt,pUn,sEt,sEz,sEs]
    refine tk0 (i := 1) (v := .int .i64 (k : Int)) ?_
    try simp only[pUt,pUn,sEt,sEz,sEs]
    refine tk0 (i := 2) (v := .int .i64 (j : Int)) ?_
    try simp only[pUt,pUn,sEt,sEz,sEs]
    refine tk0 (i := 3) (v := .pointer (some ⟨g2, o + j * 5, none⟩)) ?_
    try simp only[pUt,pUn,sEt,sEz,sEs]
    refine tk0 (i := 4) (v := .pointer (some ⟨g2, o + j * 5, none⟩)) ?_
    try simp only[pUt,pUn,sEt,sEz,sEs]
    refine tkn (i := 5) (v := .agg #[.int .i64 x.key.time, .int .i64 x.key.source, .int .i64 x.key.seq]) (fun W' hSW => ?_) ?_
    ·obtain ⟨x0, x1, x2, x3, x4⟩ := HX.out.later hSW
     first|go_simp;done|exact rfl|go_simp;rfl|go_simp;omega
    try simp only[pUt,pUn,sEt,sEz,sEs]
    refine tk0 (i := 6) (v := .slice (some ⟨g2, o, none⟩) n cap) ?_
    try simp only[pUt,pUn,sEt,sEz,sEs]
    refine tk0 (i := 7) (v := .int .i64 (k : Int)) ?_
    try simp only[pUt,pUn,sEt,sEz,sEs]
    refine tk0 (i := 8) (v := .pointer (some ⟨g2, o + k * 5, none⟩)) ?_
    try simp only[pUt,pUn,sEt,sEz,sEs]
    refine tk0 (i := 9) (v := .pointer (some ⟨g2, o + k * 5, none⟩)) ?_
    try simp only[pUt,pUn,sEt,sEz,sEs]
    refine tkn (i := 10) (v := .agg #[.int .i64 y.key.time, .int .i64 y.key.source, .int .i64 y.key.seq]) (fun W' hSW => ?_) ?_
    ·obtain ⟨x0, x1, x2, x3, x4⟩ := HY.out.later hSW
     first|go_simp;done|exact rfl|go_simp;rfl|go_simp;omega
    try simp only[pUt,pUn,sEt,sEz,sEs]
    refine take_call (i := 11) rfl (by kernel_rfl) (by kernel_rfl) (fun K hK => ?_)
    go_simp
    refine (HLs.out _).mono ?_
    rintro e wA ⟨rfl, hfA⟩
    have FA := Lib.hid (hHeld.trans hfA)
    clear hfA
    go_wp2_with fail
    refine hK.out _ _ FA.out (fun hHeld => ?_)
    clear hK K
    try simp only[pUt,pUn,sEt,sEz,sEs]
    refine tk0 (i := 12) (v := .bool true) ?_
    try simp only[pUt,pUn,sEt,sEz,sEs]
    refine wpAnyH_done (by kernel_rfl) ?_ _
    have FE := Lib.hid (hfr.out.trans hHeld)
    clear hHeld
    go_wp2_with fail
    go_ret
    exact ⟨ret_bool hres.out, FE.out⟩
  ·have hres := Lib.hid (show true = R by
    rw [← HR.out]
    exact (decide_eq_true (asc_adj.2 (fun j x y hx hy => hpre.out j x y (by have := (List.getElem?_eq_some_iff.1 hy).1; rw [Hl.out] at this; omega) hx hy))).symm)
   go_wp2_with fail
   go_ret
   exact ⟨ret_bool hres.out, hfr.out⟩
set_option maxHeartbeats 2000000 in
theorem rCount_any {w : World} {a : Option Addr} {n cap : Nat} {f t : Int} (L : List Ev) (h : EsIn w a L) (hl : L.length = n) (hn : n ≤ 10000) :
  Calls Tryz.prog 37 #[.slice a n cap, .int .i64 f, .int .i64 t] w fun e w' => e = .returned (.tuple #[.int .i64 (countC L f t).1, .int .i64 (countC L f t).2]) ∧ Fr0 none' w w' := by
 have HS := Lib.hid (rSorted_any (cap := cap) L h hl hn)
 have H := Lib.hid h
 have Hl := Lib.hid hl
 clear h hl
 by_cases ho : AscE L
 ·rw [show decide (AscE L) = true from decide_eq_true ho] at HS
  have hR : countC L f t = (((btwE f t L : Nat) : Int), 0) := by unfold countC; rw [if_pos ho]
  rw [hR]
  clear ho hR
  simp only
  obtain ⟨R, hR⟩ : ∃ R, btwE f t L = R := ⟨_, rfl⟩
  rw [hR]
  have HR := Lib.hid hR
  clear hR
  go_enter Tryz.func37, Tryz.ntmps37
  go_wp2_with fail
  refine HS.out.mono ?_
  rintro e w1 ⟨rfl, hf⟩
  have F1 := Lib.hid hf
  have H1 := Lib.hid (H.out.later hf)
  clear hf
  go_wp2_with fail
  go_loopw [8, 9] (fun q i wr => ∃ k : Nat, k ≤ n ∧ q = .int .i64 (btwE f t (L.take k) : Nat) ∧ i = .int .i64 k ∧ Hid (Fr0 none' w wr)) (fun _ i _ => n - (Go.RowKit.intOf i).toNat)
  case atStart => exact ⟨0, Nat.zero_le _, by simp [btwE], rfl, F1⟩
  case round =>
   obtain ⟨k, hk, rfl, rfl, hfr⟩ := hrel
   have hql := btwE_le f t (L.take k)
   rw [List.length_take] at hql
   have HSN : ∀ x, L[k]? = some x → btwE f t (L.take (k + 1)) = btwE f t (L.take k) + (if f ≤ x.key.time ∧ x.key.time < t then 1 else 0) := fun x hx => btwE_snoc hx
   obtain ⟨q, hq⟩ : ∃ q, btwE f t (L.take k) = q := ⟨_, rfl⟩
   simp only [hq] at hql HSN ⊢
   have Hq := Lib.hid hq
   clear hq
   by_cases hlt : k < n
   ·obtain ⟨x, hx⟩ : ∃ x, L[k]? = some x := ⟨_, List.getElem?_eq_getElem (by rw [Hl.out]; exact hlt)⟩
    obtain ⟨g, o, rfl, hxc⟩ := (H.out.later hfr.out) k x hx
    obtain ⟨x0, x1, x2, x3, x4⟩ := hxc
    have k1 : (0 : Int) ≤ (k : Int) := by omega
    have k2 : (k : Int) < (n : Int) := by omega
    have hst := HSN x hx
    have HFW := hfr
    clear HSN hx
    by_cases g1 : f ≤ x.key.time
    ·have d1 : decide (f ≤ x.key.time) = true := decide_eq_true g1
     have d1' : decide (x.key.time ≥ f) = true := decide_eq_true g1
     by_cases g2 : x.key.time < t
     ·have d2 : decide (x.key.time < t) = true := decide_eq_true g2
      rw [if_pos ⟨g1, g2⟩] at hst
      have Hst := Lib.hid hst
      clear hst g1 g2
      go_wp2_with fail
      go_roundw
      case rel => exact ⟨k + 1, by omega, by rw [Hst.out]; go_num, by go_num, HFW⟩
      case measure => simp [Go.RowKit.intOf]; omega
     ·have d2 : decide (x.key.time < t) = false := decide_eq_false g2
      rw [if_neg (fun h => g2 h.2), Nat.add_zero] at hst
      have Hst := Lib.hid hst
      clear hst g1 g2
      go_wp2_with fail
      go_roundw
      case rel => exact ⟨k + 1, by omega, by rw [Hst.out, Nat.add_zero], by go_num, HFW⟩
      case measure => simp [Go.RowKit.intOf]; omega
    ·have d1 : decide (f ≤ x.key.time) = false := decide_eq_false g1
     have d1' : decide (x.key.time ≥ f) = false := decide_eq_false g1
     rw [if_neg (fun h => g1 h.1), Nat.add_zero] at hst
     have Hst := Lib.hid hst
     clear hst g1
     go_wp2_with fail
     go_roundw
     case rel => exact ⟨k + 1, by omega, by rw [Hst.out, Nat.add_zero], by go_num, HFW⟩
     case measure => simp [Go.RowKit.intOf]; omega
   ·have hres : (q : Int) = (R : Int) := by
     rw [← HR.out, ← Hq.out, List.take_of_length_le (by rw [Hl.out]; omega)]
    have Hres := Lib.hid hres
    clear hres HSN
    go_wp2_with fail
    go_ret2
    exact ⟨by simp [Hres.out], hfr.out⟩
 ·rw [show decide (AscE L) = false from decide_eq_false ho] at HS
  have hR : countC L f t = (0, 110) := by unfold countC; rw [if_neg ho]
  rw [hR]
  clear ho hR
  go_enter Tryz.func37, Tryz.ntmps37
  go_wp2_with fail
  refine HS.out.mono ?_
  rintro e w1 ⟨rfl, hf⟩
  have F1 := Lib.hid hf
  clear hf
  go_wp2_with fail
  go_ret2
  exact ⟨rfl, F1.out⟩
/-- The times of the first k events, each once. -/
def cuE (L : List Ev) (k : Nat) : List Int := Lib.compactUpTo (timesE L).toArray k
theorem timesE_at {L : List Ev} {k : Nat} {x : Ev} (h : L[k]? = some x) : (timesE L).toArray[k]! = x.key.time := by
 obtain ⟨h1, h2⟩ := List.getElem?_eq_some_iff.1 h
 have h3 : (timesE L)[k]? = some x.key.time := by unfold timesE; rw [List.getElem?_map, h]; rfl
 simp [h3]
theorem cuE_first {L : List Ev} {y : Ev} (h : L[0]? = some y) : cuE L (0 + 1) = cuE L 0 ++ [y.key.time] := by
 unfold cuE
 rw [Lib.compactUpTo_succ, if_pos (by simp [Lib.keeps]), timesE_at h]
theorem cuE_on {L : List Ev} {k j : Nat} {x y : Ev} (hy : L[k]? = some y) (hx : L[j]? = some x) (hj : k - 1 = j) (hn : y.key.time ≠ x.key.time) : cuE L (k + 1) = cuE L k ++ [y.key.time] := by
 unfold cuE
 rw [Lib.compactUpTo_succ, if_pos (Lib.keeps_pos (by rw [hj, timesE_at hy, timesE_at hx]; exact hn)), timesE_at hy]
theorem cuE_off {L : List Ev} {k j : Nat} {x y : Ev} (hy : L[k]? = some y) (hx : L[j]? = some x) (hk : 0 < k) (hj : k - 1 = j) (hn : y.key.time = x.key.time) : cuE L (k + 1) = cuE L k := by
 unfold cuE
 rw [Lib.compactUpTo_succ, Lib.keeps_neg hk (by rw [hj, timesE_at hy, timesE_at hx]; exact hn)]
 simp
theorem cuE_all {L : List Ev} {n : Nat} (h : L.length = n) : cuE L n = timesC L := by
 unfold cuE timesC Lib.compact timesE
 rw [List.length_map, h]
theorem cuE_len (L : List Ev) (k : Nat) : (cuE L k).length ≤ k := by
 unfold cuE Lib.compactUpTo
 rw [List.length_map]
 exact Nat.le_trans (List.length_filter_le _ _) (by simp)
set_option maxHeartbeats 2000000 in
theorem rTimes_any {w : World} {a : Option Addr} {n cap : Nat} (L : List Ev) (h : EsIn w a L) (hl : L.length = n) (hn : n ≤ 10000) :
  Calls Tryz.prog 38 #[.slice a n cap] w fun e w' => ∃ v, e = .returned (.tuple #[v, .int .i64 (if AscE L then 0 else 110)]) ∧ w'.ownsRow w.heap.size 3 1 v (if AscE L then (timesC L).length else 0) ((if AscE L then timesC L else []).map (Value.int .i64)) ∧ Fr0 none' w w' := by
 obtain ⟨i0, hi, hz0, hz1, hz2⟩ := info_parts info_intC
 have HS := Lib.hid (rSorted_any (cap := cap) L h hl hn)
 have H := Lib.hid h
 have Hl := Lib.hid hl
 obtain ⟨N, hN⟩ : ∃ N, w.heap.size = N := ⟨_, rfl⟩
 have HN := Lib.hid hN
 rw [hN]
 clear h hl hN
 by_cases ho : AscE L
 ·rw [show decide (AscE L) = true from decide_eq_true ho] at HS
  simp only [if_pos ho]
  clear ho
  go_enter Tryz.func38, Tryz.ntmps38
  go_wp2_with fail
  refine HS.out.mono ?_
  rintro e w1 ⟨rfl, hf⟩
  have F1 := Lib.hid hf
  have H1 := Lib.hid (H.out.later hf)
  clear hf
  go_wp2_with fail
  go_loopw [4, 5] (fun out i wr => ∃ k : Nat, k ≤ n ∧ i = .int .i64 k ∧ Hid (wr.ownsRow N 3 1 out (cuE L k).length ((cuE L k).map (Value.int .i64))) ∧ Hid (Fr0 none' w wr)) (fun _ i _ => n - (Go.RowKit.intOf i).toNat)
  case atStart => exact ⟨0, Nat.zero_le _, rfl, World.ownsRow_nil _ _ _ _, F1⟩
  case round =>
   obtain ⟨k, hk, rfl, hown, hfr⟩ := hrel
   by_cases hlt : k < n
   ·obtain ⟨y, hy⟩ : ∃ x, L[k]? = some x := ⟨_, List.getElem?_eq_getElem (by rw [Hl.out]; exact hlt)⟩
    obtain ⟨g2, o, rfl, hyc⟩ := H.out k y hy
    have HY := Lib.hid (hyc.later hfr.out)
    have Hy := Lib.hid hy
    have k1 : (0 : Int) ≤ (k : Int) := by omega
    have k2 : (k : Int) < (n : Int) := by omega
    have hNr : N ≤ wr.heap.size := by rw [← HN.out]; exact hfr.out.size
    have hqk := cuE_len L k
    obtain ⟨q, hq⟩ : ∃ q, (cuE L k).length = q := ⟨_, rfl⟩
    have Hq := Lib.hid hq
    rw [hq] at hown hqk
    obtain ⟨va, vc, rfl⟩ : ∃ va vc, u4 = .slice va q vc := by
     rcases hown.out.2 with ⟨rfl, h0⟩ | ⟨g, cap, cur, rfl, _⟩
     ·exact ⟨none, 0, by rw [h0]⟩
     ·exact ⟨_, cap, rfl⟩
    clear hy hyc hq
    by_cases h0 : k = 0
    ·have hst := Lib.hid (show cuE L (k + 1) = cuE L k ++ [y.key.time] by have := Hy.out; subst h0; exact cuE_first this)
     have k6 : ((k : Int) == 0) = true := by rw [h0]; rfl
     clear h0
     go_wp2_with fail
     refine wp_region_held_drew (S := fun W' => Fr0 none' wr W') (by kernel_rfl) ((Fr0.refl none' wr).drew) (fun hHeld => ?_)
     refine tk0 (i := 0) (v := .int .i64 (k : Int)) ?_
     try simp only[pUt,pUn,sEt,sEz,sEs]
     refine tk0 (i := 1) (v := .bool true) ?_
     try simp only[pUt,pUn,sEt,sEz,sEs]
     refine tk0 (i := 2) (v := .bool true) ?_
     try simp only[pUt,pUn,sEt,sEz,sEs]
     refine tkf (i := 3) ?_
     try simp only[pUt,pUn,sEt,sEz,sEs]
     refine tkf (i := 4) ?_
     try simp only[pUt,pUn,sEt,sEz,sEs]
     refine tkf (i := 5) ?_
     try simp only[pUt,pUn,sEt,sEz,sEs]
     refine tkf (i := 6) ?_
     try simp only[pUt,pUn,sEt,sEz,sEs]
     refine tkf (i := 7) ?_
     try simp only[pUt,pUn,sEt,sEz,sEs]
     refine tkf (i := 8) ?_
     try simp only[pUt,pUn,sEt,sEz,sEs]
     refine tkf (i := 9) ?_
     try simp only[pUt,pUn,sEt,sEz,sEs]
     refine tkf (i := 10) ?_
     try simp only[pUt,pUn,sEt,sEz,sEs]
     refine tkf (i := 11) ?_
     try simp only[pUt,pUn,sEt,sEz,sEs]
     refine tkf (i := 12) ?_
     try simp only[pUt,pUn,sEt,sEz,sEs]
     refine tkf (i := 13) ?_
     try simp only[pUt,pUn,sEt,sEz,sEs]
     refine tkf (i := 14) ?_
     try simp only[pUt,pUn,sEt,sEz,sEs]
     refine tkf (i := 15) ?_
     try simp only[pUt,pUn,sEt,sEz,sEs]
     refine tkf (i := 16) ?_
     try simp only[pUt,pUn,sEt,sEz,sEs]
     refine tk0 (i := 17) (v := .bool true) ?_
     try simp only[pUt,pUn,sEt,sEz,sEs]
     refine wpAnyH_done (by kernel_rfl) ?_ _
     have FE := Lib.hid (hfr.out.trans hHeld)
     have HY2 := HY.out.later hHeld
     obtain ⟨x0, x1, x2, x3, x4⟩ := HY2
     have HO := Lib.hid (ownsRow_fr0 hown.out hHeld (fun _ _ h => h))
     clear hHeld hown hfr
     generalize wr.drew = WD at FE HO x0 x1 x2 x3 x4 ⊢
     have hNW : N ≤ WD.heap.size := by rw [← HN.out]; exact FE.out.size
     have hsrc := Src.newRow (P := Tryz.prog) (size := 1) (tx := 35) (ty := 3) WD Tryz.underlying35 1 1 [.int .i64 y.key.time] rfl (by simp [Value.oneCell'])
     have Hown2 := Lib.hid (HO.out.alloc (.cells [Value.int .i64 y.key.time].toArray 3))
     have Fr2 := Lib.hid (FE.out.alloc (.cells [Value.int .i64 y.key.time].toArray 3))
     have Hsrc := Lib.hid hsrc
     clear hsrc
     go_wp2_with (at_builtin; refine wpList_append_k rfl _ _ 35 35 rfl N 3 i0 (.int .i64 0) 1 8 Tryz.underlying35 hi hz0 hz1 hz2 rfl (by decide) _ q _ rfl Hown2.out (.slice (some ⟨WD.heap.size, 0, none⟩) 1 1) 1 _ rfl Hsrc.out (by unfold maxLen; omega) (by omega) (by simp; omega) ?_; intro v' w2 hown' hgrow hdr hob)
     have Hfin := Lib.hid (Fr2.out.grown hgrow (fun j hj hl => by
      have h1 := (Hown2.out.lt j hj).1
      rw [HN.out] at hl; omega))
     have Hown' := Lib.hid hown'
     obtain ⟨g', cap', rfl⟩ := ownsRow_k_succ hown'
     clear hgrow hdr hob hown'
     go_wp2
     go_roundw
     case rel => exact ⟨k + 1, by omega, by go_num, by rw [hst.out, List.map_append, List.length_append]; exact Lib.hid (by rw [Hq.out]; exact Hown'.out), Hfin⟩
     case measure => simp [Go.RowKit.intOf]; omega
    ·obtain ⟨x, hx⟩ : ∃ y, L[k - 1]? = some y := ⟨_, List.getElem?_eq_getElem (by rw [Hl.out]; omega)⟩
     obtain ⟨g3, o3, e3, hxc⟩ := H.out (k - 1) x hx
     injection e3 with e3
     injection e3 with e3 e4
     subst e3 e4
     have HX := Lib.hid (hxc.later hfr.out)
     have Hx := Lib.hid hx
     obtain ⟨j, hj⟩ : ∃ j, k - 1 = j := ⟨_, rfl⟩
     rw [hj] at HX Hx
     have Hj := Lib.hid hj
     have hj1 : (k : Int) - 1 = (j : Int) := by omega
     have k3 : (0 : Int) ≤ (j : Int) := by omega
     have k4 : (j : Int) < (n : Int) := by omega
     have k5 : IntKind.i64.wrap ((k : Int) - 1) = (j : Int) := by rw [hj1]; exact IntWalk.i64_in _ (by omega)
     have k6 : ((k : Int) == 0) = false := beq_eq_false_iff_ne.2 (by omega)
     clear hx hxc hj hj1
     by_cases hn : y.key.time = x.key.time
     ·have hst := Lib.hid (cuE_off Hy.out Hx.out (by omega) Hj.out hn)
      have d1 : (y.key.time == x.key.time) = true := by rw [hn]; exact beq_self_eq_true _
      have d2 : (y.key.time != x.key.time) = false := by rw [hn]; simp
      clear hn
      go_wp2_with fail
      refine wp_region_held_drew (S := fun W' => Fr0 none' wr W') (by kernel_rfl) ((Fr0.refl none' wr).drew) (fun hHeld => ?_)
      refine tk0 (i := 0) (v := .int .i64 (k : Int)) ?_
      try simp only[pUt,pUn,sEt,sEz,sEs]
      refine tk0 (i := 1) (v := .bool false) ?_
      try simp only[pUt,pUn,sEt,sEz,sEs]
      refine tk0 (i := 2) (v := .bool false) ?_
      try simp only[pUt,pUn,sEt,sEz,sEs]
      refine tk0 (i := 3) (v := .slice (some ⟨g2, o, none⟩) n cap) ?_
      try simp only[pUt,pUn,sEt,sEz,sEs]
      refine tk0 (i := 4) (v := .int .i64 (k : Int)) ?_
      try simp only[pUt,pUn,sEt,sEz,sEs]
      refine tk0 (i := 5) (v := .pointer (some ⟨g2, o + k * 5, none⟩)) ?_
      try simp only[pUt,pUn,sEt,sEz,sEs]
      refine tk0 (i := 6) (v := .pointer (some ⟨g2, o + k * 5, none⟩)) ?_
      try simp only[pUt,pUn,sEt,sEz,sEs]
      refine tk0 (i := 7) (v := .pointer (some ⟨g2, o + k * 5, none⟩)) ?_
      try simp only[pUt,pUn,sEt,sEz,sEs]
      refine tkn (i := 8) (v := .int .i64 y.key.time) (fun W' hSW => ?_) ?_
      ·obtain ⟨x0, x1, x2, x3, x4⟩ := HY.out.later hSW
       first|go_simp;done|exact rfl|go_simp;rfl|go_simp;omega
      try simp only[pUt,pUn,sEt,sEz,sEs]
      refine tk0 (i := 9) (v := .slice (some ⟨g2, o, none⟩) n cap) ?_
      try simp only[pUt,pUn,sEt,sEz,sEs]
      refine tk0 (i := 10) (v := .int .i64 (k : Int)) ?_
      try simp only[pUt,pUn,sEt,sEz,sEs]
      refine tk0 (i := 11) (v := .int .i64 (j : Int)) ?_
      try simp only[pUt,pUn,sEt,sEz,sEs]
      refine tk0 (i := 12) (v := .pointer (some ⟨g2, o + j * 5, none⟩)) ?_
      try simp only[pUt,pUn,sEt,sEz,sEs]
      refine tk0 (i := 13) (v := .pointer (some ⟨g2, o + j * 5, none⟩)) ?_
      try simp only[pUt,pUn,sEt,sEz,sEs]
      refine tk0 (i := 14) (v := .pointer (some ⟨g2, o + j * 5, none⟩)) ?_
      try simp only[pUt,pUn,sEt,sEz,sEs]
      refine tkn (i := 15) (v := .int .i64 x.key.time) (fun W' hSW => ?_) ?_
      ·obtain ⟨x0, x1, x2, x3, x4⟩ := HX.out.later hSW
       first|go_simp;done|exact rfl|go_simp;rfl|go_simp;omega
      try simp only[pUt,pUn,sEt,sEz,sEs]
      refine tk0 (i := 16) (v := .bool false) ?_
      try simp only[pUt,pUn,sEt,sEz,sEs]
      refine tk0 (i := 17) (v := .bool false) ?_
      try simp only[pUt,pUn,sEt,sEz,sEs]
      refine wpAnyH_done (by kernel_rfl) ?_ _
      have FE := Lib.hid (hfr.out.trans hHeld)
      have HO := Lib.hid (ownsRow_fr0 hown.out hHeld (fun _ _ h => h))
      clear hHeld hown hfr
      go_wp2_with fail
      go_roundw
      case rel => exact ⟨k + 1, by omega, by go_num, by rw [hst.out, Hq.out]; exact HO, FE⟩
      case measure => simp [Go.RowKit.intOf]; omega
     ·have hst := Lib.hid (cuE_on Hy.out Hx.out Hj.out hn)
      have d1 : (y.key.time == x.key.time) = false := beq_eq_false_iff_ne.2 hn
      have d2 : (y.key.time != x.key.time) = true := bne_iff_ne.2 hn
      clear hn
      go_wp2_with fail
      refine wp_region_held_drew (S := fun W' => Fr0 none' wr W') (by kernel_rfl) ((Fr0.refl none' wr).drew) (fun hHeld => ?_)
      refine tk0 (i := 0) (v := .int .i64 (k : Int)) ?_
      try simp only[pUt,pUn,sEt,sEz,sEs]
      refine tk0 (i := 1) (v := .bool false) ?_
      try simp only[pUt,pUn,sEt,sEz,sEs]
      refine tk0 (i := 2) (v := .bool false) ?_
      try simp only[pUt,pUn,sEt,sEz,sEs]
      refine tk0 (i := 3) (v := .slice (some ⟨g2, o, none⟩) n cap) ?_
      try simp only[pUt,pUn,sEt,sEz,sEs]
      refine tk0 (i := 4) (v := .int .i64 (k : Int)) ?_
      try simp only[pUt,pUn,sEt,sEz,sEs]
      refine tk0 (i := 5) (v := .pointer (some ⟨g2, o + k * 5, none⟩)) ?_
      try simp only[pUt,pUn,sEt,sEz,sEs]
      refine tk0 (i := 6) (v := .pointer (some ⟨g2, o + k * 5, none⟩)) ?_
      try simp only[pUt,pUn,sEt,sEz,sEs]
      refine tk0 (i := 7) (v := .pointer (some ⟨g2, o + k * 5, none⟩)) ?_
      try simp only[pUt,pUn,sEt,sEz,sEs]
      refine tkn (i := 8) (v := .int .i64 y.key.time) (fun W' hSW => ?_) ?_
      ·obtain ⟨x0, x1, x2, x3, x4⟩ := HY.out.later hSW
       first|go_simp;done|exact rfl|go_simp;rfl|go_simp;omega
      try simp only[pUt,pUn,sEt,sEz,sEs]
      refine tk0 (i := 9) (v := .slice (some ⟨g2, o, none⟩) n cap) ?_
      try simp only[pUt,pUn,sEt,sEz,sEs]
      refine tk0 (i := 10) (v := .int .i64 (k : Int)) ?_
      try simp only[pUt,pUn,sEt,sEz,sEs]
      refine tk0 (i := 11) (v := .int .i64 (j : Int)) ?_
      try simp only[pUt,pUn,sEt,sEz,sEs]
      refine tk0 (i := 12) (v := .pointer (some ⟨g2, o + j * 5, none⟩)) ?_
      try simp only[pUt,pUn,sEt,sEz,sEs]
      refine tk0 (i := 13) (v := .pointer (some ⟨g2, o + j * 5, none⟩)) ?_
      try simp only[pUt,pUn,sEt,sEz,sEs]
      refine tk0 (i := 14) (v := .pointer (some ⟨g2, o + j * 5, none⟩)) ?_
      try simp only[pUt,pUn,sEt,sEz,sEs]
      refine tkn (i := 15) (v := .int .i64 x.key.time) (fun W' hSW => ?_) ?_
      ·obtain ⟨x0, x1, x2, x3, x4⟩ := HX.out.later hSW
       first|go_simp;done|exact rfl|go_simp;rfl|go_simp;omega
      try simp only[pUt,pUn,sEt,sEz,sEs]
      refine tk0 (i := 16) (v := .bool true) ?_
      try simp only[pUt,pUn,sEt,sEz,sEs]
      refine tk0 (i := 17) (v := .bool true) ?_
      try simp only[pUt,pUn,sEt,sEz,sEs]
      refine wpAnyH_done (by kernel_rfl) ?_ _
      have FE := Lib.hid (hfr.out.trans hHeld)
      have HY2 := HY.out.later hHeld
      obtain ⟨x0, x1, x2, x3, x4⟩ := HY2
      have HO := Lib.hid (ownsRow_fr0 hown.out hHeld (fun _ _ h => h))
      clear hHeld hown hfr
      generalize wr.drew = WD at FE HO x0 x1 x2 x3 x4 ⊢
      have hNW : N ≤ WD.heap.size := by rw [← HN.out]; exact FE.out.size
      have hsrc := Src.newRow (P := Tryz.prog) (size := 1) (tx := 35) (ty := 3) WD Tryz.underlying35 1 1 [.int .i64 y.key.time] rfl (by simp [Value.oneCell'])
      have Hown2 := Lib.hid (HO.out.alloc (.cells [Value.int .i64 y.key.time].toArray 3))
      have Fr2 := Lib.hid (FE.out.alloc (.cells [Value.int .i64 y.key.time].toArray 3))
      have Hsrc := Lib.hid hsrc
      clear hsrc
      go_wp2_with (at_builtin; refine wpList_append_k rfl _ _ 35 35 rfl N 3 i0 (.int .i64 0) 1 8 Tryz.underlying35 hi hz0 hz1 hz2 rfl (by decide) _ q _ rfl Hown2.out (.slice (some ⟨WD.heap.size, 0, none⟩) 1 1) 1 _ rfl Hsrc.out (by unfold maxLen; omega) (by omega) (by simp; omega) ?_; intro v' w2 hown' hgrow hdr hob)
      have Hfin := Lib.hid (Fr2.out.grown hgrow (fun j hj hl => by
       have h1 := (Hown2.out.lt j hj).1
       rw [HN.out] at hl; omega))
      have Hown' := Lib.hid hown'
      obtain ⟨g', cap', rfl⟩ := ownsRow_k_succ hown'
      clear hgrow hdr hob hown'
      go_wp2
      go_roundw
      case rel => exact ⟨k + 1, by omega, by go_num, by rw [hst.out, List.map_append, List.length_append]; exact Lib.hid (by rw [Hq.out]; exact Hown'.out), Hfin⟩
      case measure => simp [Go.RowKit.intOf]; omega
   ·have hkm : k = n := by omega
    subst hkm
    have hfin : wr.ownsRow N 3 1 u4 (timesC L).length ((timesC L).map (Value.int .i64)) := by
     have h1 := hown.out
     rw [cuE_all Hl.out] at h1
     exact h1
    have Hf := Lib.hid hfin
    clear hown hfin
    go_wp2_with fail
    go_ret2
    exact ⟨_, rfl, Hf.out, hfr.out⟩
 ·rw [show decide (AscE L) = false from decide_eq_false ho] at HS
  simp only [if_neg ho]
  clear ho
  go_enter Tryz.func38, Tryz.ntmps38
  go_wp2_with fail
  refine HS.out.mono ?_
  rintro e w1 ⟨rfl, hf⟩
  have F1 := Lib.hid hf
  clear hf
  go_wp2_with fail
  go_ret2
  exact ⟨_, rfl, World.ownsRow_nil _ _ _ _, F1.out⟩
end Go.Proofs.YtieeloealklkgaaGreat
