/-
  The queue of events: what each function of the package does, and what the laws make of it.
-/
import Derived.Test.YtmcgipilopfgoaaGreatJb1
import Derived.Test.YtmcgipilopfgoaaGreatJa1
import Derived.Test.YtmcgipilopfgoaaGreatRows
import Derived.WalkKit
import Derived.ProofKit
import Derived.OpenShut
import Derived.ChangeMaps5
import Derived.Carry
import Derived.Deep.Slices
import Derived.Deep.Fields
import Derived.ChangeSame
import Derived.Lib.SmallJoins
set_option linter.unusedSimpArgs false
set_option linter.unusedVariables false

/-
  The queue: Take, Cancel.
-/
namespace Go.Proofs.YtmcgipilopfgoaaGreat
open Go Go.RowKit Go.ChangeMaps
attribute [local go_sem ↓] Go.wp_at_zero Go.wp_at_succ
attribute [local go_sem] Oper.semAt_some wide_fn wide_depth wide_fnR wide_depthR
variable {w : World} {qb sb pb hb ba eb mb n T : Nat} {hv : Value} {X : List Pd} {F : List Nat} {P : List Pl} {first : Int} {V : List Ev}

/-- A queue behind an act. -/
theorem QIn.grown {w' : World} {hv' : Value} {T' : Nat} {X' : List Pd} {F' : List Nat} {P' : List Pl} {first' : Int} {V' : List Ev} {E : List Ev} {ft : Nat → Prop} (h : QIn w' qb sb pb hb ba eb mb hv' n T' X' F' P' first' V') (hE : X'.map Prod.fst = E)
  (hft : ∀ k, qfoot qb sb pb hb ba eb mb hv k → ft k) (hlt : ∀ k, ft k → k < w.heap.size) (hsz : w.heap.size ≤ w'.heap.size) (own : ∀ g, hv'.ownBlock = some g → hv.ownBlock = some g ∨ w.heap.size ≤ g) : QIs w' qb n T' E (qgrow ft w w') := by
 refine ⟨sb, pb, hb, ba, eb, mb, hv', X', F', P', first', V', h, hE, fun k hk => ?_, fun k hk => ?_⟩
 ·have hl := h.lt k hk
  rcases hk with h | h | h | h | h | h | h | h
  ·exact .inl (hft k (.inl h))
  ·exact .inl (hft k (.inr (.inl h)))
  ·exact .inl (hft k (.inr (.inr (.inl h))))
  ·exact .inl (hft k (.inr (.inr (.inr (.inl h)))))
  ·exact .inl (hft k (.inr (.inr (.inr (.inr (.inl h))))))
  ·exact .inl (hft k (.inr (.inr (.inr (.inr (.inr (.inl h)))))))
  ·exact .inl (hft k (.inr (.inr (.inr (.inr (.inr (.inr (.inl h))))))))
  ·rcases own k h with g | g
   ·exact .inl (hft k (.inr (.inr (.inr (.inr (.inr (.inr (.inr g))))))))
   ·exact .inr ⟨g, hl⟩
 ·rcases hk with h | h
  ·have := hlt k h; omega
  ·exact h.2
/-- put, on a queue. -/
theorem QIs.put {E : List Ev} {ft : Nat → Prop} {x : Ev} (h : QIs w qb n T E ft) (hr : RightE x) (hn : ∀ y ∈ E, y.name ≠ x.name) (hT : T < 4294967295) (hroom : E.length < n) :
  Calls Tryz.prog 62 #[.pointer (some ⟨qb, 0, none⟩), evV x] w fun e w' => e = .returned (.tuple #[]) ∧ QIs w' qb n (T + 1) (insE x E) (qgrow ft w w') ∧ Fr0 ft w w' := by
 obtain ⟨sb, pb, hb, ba, eb, mb, hv, X, F, P, first, V, h1, rfl, h3, h4⟩ := h
 obtain ⟨p, F', rfl⟩ : ∃ p F', F = p :: F' := by
  cases F with
  | nil => have := h1.ok.count; rw [List.length_map] at hroom; simp at this; omega
  | cons p F' => exact ⟨p, F', rfl⟩
 refine (Qput_is h1 hr (fun y hy => hn _ (List.mem_map.2 ⟨y, hy, rfl⟩)) hT).mono ?_
 rintro e w' ⟨rfl, pl, hv', _, hq, hf, own⟩
 exact ⟨rfl, hq.grown (insX_fst _ _) h3 h4 hf.size own, hf.mono (fun k _ hk => h3 k hk)⟩
theorem zero_ref (w : World) : (zeroValue 112).run Tryz.prog w = .ok (refV 0 0) w := Tryz.zeroValue112 w
set_option maxRecDepth 100000 in
set_option maxHeartbeats 1000000 in
theorem QTake_nil (h : QIn w qb sb pb hb ba eb mb hv n T [] F P first V) :
  Calls Tryz.prog 28 #[.pointer (some ⟨qb, 0, none⟩)] w fun e w' => e = .returned (.tuple #[evV zeroEv, .int .i64 6]) ∧ Fr0 none' w w' := by
 have H := Lib.hid h
 clear h
 go_enter Tryz.func28, Tryz.ntmps28
 go_wp2_with fail
 obtain ⟨q, hq⟩ : ∃ q, w.heap.size = q := ⟨_, rfl⟩
 obtain ⟨W1, hW1⟩ : ∃ W, w.alloc (.cells #[.int .i64 0, .int .i64 0, .int .i64 0, .int .i64 0, .int .i64 0] 28) = W := ⟨_, rfl⟩
 have hbq := Lib.hid (show W1.heap[q]? = some (.cells #[.int .i64 0, .int .i64 0, .int .i64 0, .int .i64 0, .int .i64 0] 28 (0, 0)) by rw [← hW1, ← hq]; exact World.alloc_heap_new w _)
 have F1 := Lib.hid (show Fr0 none' w W1 by rw [← hW1]; exact (Fr0.refl _ _).alloc _)
 rw [hW1]
 try rw [hq]
 have Hq := Lib.hid hq
 clear hW1 hq
 have h1 := H.out.fr0 F1.out (fun _ _ h => h)
 have H1 := Lib.hid h1
 refine (qnone_is h1).mono ?_
 rintro e w1 ⟨rfl, rfl⟩
 clear h1
 go_wp2_with fail
 refine (QLeast_is H1.out).mono ?_
 rintro e w2 ⟨rfl, hf2⟩
 obtain ⟨z, hz⟩ : ∃ z, lstE [] = z := ⟨_, rfl⟩
 simp only [List.map_nil, hz, List.isEmpty_nil, Bool.not_true, evV]
 have hb2 := Lib.hid ((hf2.block q (Array.getElem?_eq_some_iff.1 hbq.out).1 id).trans hbq.out)
 obtain ⟨W2, hW2⟩ : ∃ W2, w2.alloc (.cells #[.int .i64 z.key.time, .int .i64 z.key.source, .int .i64 z.key.seq, .int .i64 z.to, .int .i64 z.value] 28) = W2 := ⟨_, rfl⟩
 have f2 : Fr0 none' w W2 := by rw [← hW2]; exact (F1.out.trans hf2).alloc _
 have b2 : W2.heap[q]? = some (.cells #[.int .i64 0, .int .i64 0, .int .i64 0, .int .i64 0, .int .i64 0] 28 (0, 0)) := by rw [← hW2]; exact (Below.heap_alloc _ _ _ (Array.getElem?_eq_some_iff.1 hb2.out).1).trans hb2.out
 clear hbq F1
 have F1 := Lib.hid f2
 have hbq := Lib.hid b2
 clear f2 b2 hf2 hb2 hz
 have t0 := thaw_in hbq.out 0
 have t1 := thaw_in hbq.out 1
 have t2 := thaw_in hbq.out 2
 have t3 := thaw_in hbq.out 3
 have t4 := thaw_in hbq.out 4
 have y0 := cells_in hbq.out 0
 have y1 := cells_in hbq.out 1
 have y2 := cells_in hbq.out 2
 have y3 := cells_in hbq.out 3
 have y4 := cells_in hbq.out 4
 simp at y0 y1 y2 y3 y4
 go_wp2_with fail
 clear hW2
 have e6 := ev_set5 hbq.out (.int .i64 0) (.int .i64 0) (.int .i64 0) (.int .i64 0) (.int .i64 0)
 have f6 : Fr0 none' w (((((W2.setCell ⟨q, 0, none⟩ (.int .i64 0)).setCell ⟨q, 1, none⟩ (.int .i64 0)).setCell ⟨q, 2, none⟩ (.int .i64 0)).setCell ⟨q, 3, none⟩ (.int .i64 0)).setCell ⟨q, 4, none⟩ (.int .i64 0)) := F1.out.trans' (S' := fun k => k = q) (((((Fr0.refl (fun k => k = q) W2).setCell (fun _ => rfl) _).setCell (fun _ => rfl) _).setCell (fun _ => rfl) _).setCell (fun _ => rfl) _ |>.setCell (fun _ => rfl) _) (fun k hk e => by have := Hq.out; omega)
 generalize (((((W2.setCell ⟨q, 0, none⟩ (.int .i64 0)).setCell ⟨q, 1, none⟩ (.int .i64 0)).setCell ⟨q, 2, none⟩ (.int .i64 0)).setCell ⟨q, 3, none⟩ (.int .i64 0)).setCell ⟨q, 4, none⟩ (.int .i64 0)) = VV at e6 f6 ⊢
 clear y0 y1 y2 y3 y4
 have y0 := cells_in e6 0
 have y1 := cells_in e6 1
 have y2 := cells_in e6 2
 have y3 := cells_in e6 3
 have y4 := cells_in e6 4
 simp at y0 y1 y2 y3 y4
 exact bodyPost_ret (v := .tuple #[evV zeroEv, .int .i64 6]) (by simp [results, Tryz.results28, go_sem, y0, y1, y2, y3, y4, evV, zeroEv]) rfl ⟨rfl, f6⟩
set_option maxRecDepth 100000 in
set_option maxHeartbeats 1000000 in
theorem QTake_cons {y : Pd} {r : List Pd} (h : QIn w qb sb pb hb ba eb mb hv n T (y :: r) F P first V) (hT : T < 4294967296) :
  Calls Tryz.prog 28 #[.pointer (some ⟨qb, 0, none⟩)] w fun e w' => e = .returned (.tuple #[evV y.1, .int .i64 0]) ∧ ∃ hv' F' P' first' V', QIn w' qb sb pb hb ba eb mb hv' n T (delX y.2 (y :: r)) F' P' first' V' ∧ Fr0 (qfoot qb sb pb hb ba eb mb hv) w w' ∧ ∀ g, hv'.ownBlock = some g → hv.ownBlock = some g ∨ w.heap.size ≤ g := by
 have H := Lib.hid h
 obtain ⟨x, p⟩ := y
 clear h
 go_enter Tryz.func28, Tryz.ntmps28
 go_wp2_with fail
 obtain ⟨q, hq⟩ : ∃ q, w.heap.size = q := ⟨_, rfl⟩
 obtain ⟨W1, hW1⟩ : ∃ W, w.alloc (.cells #[.int .i64 0, .int .i64 0, .int .i64 0, .int .i64 0, .int .i64 0] 28) = W := ⟨_, rfl⟩
 have hbq := Lib.hid (show W1.heap[q]? = some (.cells #[.int .i64 0, .int .i64 0, .int .i64 0, .int .i64 0, .int .i64 0] 28 (0, 0)) by rw [← hW1, ← hq]; exact World.alloc_heap_new w _)
 have F1 := Lib.hid (show Fr0 none' w W1 by rw [← hW1]; exact (Fr0.refl _ _).alloc _)
 rw [hW1]
 try rw [hq]
 have Hq := Lib.hid hq
 clear hW1 hq
 have h1 := H.out.fr0 F1.out (fun _ _ h => h)
 have H1 := Lib.hid h1
 refine (qnone_is h1).mono ?_
 rintro e w1 ⟨rfl, rfl⟩
 clear h1
 go_wp2_with fail
 refine (QLeast_is H1.out).mono ?_
 rintro e w2 ⟨rfl, hf2⟩
 simp only [List.map_cons, lstE, List.isEmpty_cons, Bool.not_false, evV]
 go_wp2_with fail
 obtain ⟨q4, hq4⟩ : ∃ q4, w2.heap.size = q4 := ⟨_, rfl⟩
 obtain ⟨W3, hW3⟩ : ∃ W, w2.alloc (.cells #[.int .i64 x.key.time, .int .i64 x.key.source, .int .i64 x.key.seq, .int .i64 x.to, .int .i64 x.value] 28) = W := ⟨_, rfl⟩
 have bx3 := Lib.hid (show W3.heap[q4]? = some (.cells #[.int .i64 x.key.time, .int .i64 x.key.source, .int .i64 x.key.seq, .int .i64 x.to, .int .i64 x.value] 28 (0, 0)) by rw [← hW3, ← hq4]; exact World.alloc_heap_new w2 _)
 have f3 : Fr0 none' W1 W3 := by rw [← hW3]; exact hf2.alloc _
 rw [hW3]
 try rw [hq4]
 have HBO := Lib.hid hbq.out
 have Hq4 := Lib.hid (show W1.heap.size ≤ q4 by rw [← hq4]; exact hf2.size)
 clear hW3 hq4 hf2
 have H3 := Lib.hid (H1.out.fr0 f3 (fun _ _ h => h))
 have bo3 := Lib.hid ((f3.block q (Array.getElem?_eq_some_iff.1 hbq.out).1 id).trans hbq.out)
 have F3 := Lib.hid (F1.out.trans f3)
 clear f3
 have Skey := Lib.hid (show ∀ W' : World, (∀ k, k = qb ∨ k = q4 → W'.heap[k]? = W3.heap[k]?) → W'.cell? ⟨qb, 3, none⟩ = some (.map (some mb)) ∧ EAt W' q4 0 x ∧ True from fun W' hf => by
  have g1 := (hf qb (.inl rfl)).trans H3.out.hd
  have g2 := (hf q4 (.inr rfl)).trans bx3.out
  refine ⟨by rw [cells_in g1]; rfl, ⟨?_, ?_, ?_, ?_, ?_⟩, trivial⟩ <;> rw [cells_in g2] <;> rfl)
 have hlt3 : ∀ k, k = qb ∨ k = q4 → k < W3.heap.size := fun k hk => by
  rcases hk with rfl | rfl
  ·exact (Array.getElem?_eq_some_iff.1 H3.out.hd).1
  ·exact (Array.getElem?_eq_some_iff.1 bx3.out).1
 refine wp_region_held_drew (S := fun W' => W'.cell? ⟨qb, 3, none⟩ = some (.map (some mb)) ∧ EAt W' q4 0 x ∧ True) (by kernel_rfl) (Skey.out _ (fun _ _ => rfl)) (fun hHeld => ?_)
 refine tkn (i := 0) (v := .pointer (some ⟨qb, 0, none⟩)) (fun W' hSW => ?_) ?_
 ·(try dsimp only at hSW)
  first | (go_simp; done) | (obtain ⟨s0, ⟨s1, s2, s3, s4, s5⟩, s6⟩ := hSW; (try simp only [Nat.zero_add] at s1 s2 s3 s4 s5); (try simp only [evV]); go_simp; done) | exact rfl | (go_simp; rfl) | (go_simp; omega)
 try simp only [pUt, pUn, sEt, sEz, sEs]
 refine tkn (i := 1) (v := .pointer (some ⟨qb, 0, none⟩)) (fun W' hSW => ?_) ?_
 ·(try dsimp only at hSW)
  first | (go_simp; done) | (obtain ⟨s0, ⟨s1, s2, s3, s4, s5⟩, s6⟩ := hSW; (try simp only [Nat.zero_add] at s1 s2 s3 s4 s5); (try simp only [evV]); go_simp; done) | exact rfl | (go_simp; rfl) | (go_simp; omega)
 try simp only [pUt, pUn, sEt, sEz, sEs]
 refine tkn (i := 2) (v := .pointer (some ⟨qb, 0, none⟩)) (fun W' hSW => ?_) ?_
 ·(try dsimp only at hSW)
  first | (go_simp; done) | (obtain ⟨s0, ⟨s1, s2, s3, s4, s5⟩, s6⟩ := hSW; (try simp only [Nat.zero_add] at s1 s2 s3 s4 s5); (try simp only [evV]); go_simp; done) | exact rfl | (go_simp; rfl) | (go_simp; omega)
 try simp only [pUt, pUn, sEt, sEz, sEs]
 refine tkn (i := 3) (v := .pointer (some ⟨qb, 3, none⟩)) (fun W' hSW => ?_) ?_
 ·(try dsimp only at hSW)
  first | (go_simp; done) | (obtain ⟨s0, ⟨s1, s2, s3, s4, s5⟩, s6⟩ := hSW; (try simp only [Nat.zero_add] at s1 s2 s3 s4 s5); (try simp only [evV]); go_simp; done) | exact rfl | (go_simp; rfl) | (go_simp; omega)
 try simp only [pUt, pUn, sEt, sEz, sEs]
 refine tkn (i := 4) (v := .map (some mb)) (fun W' hSW => ?_) ?_
 ·(try dsimp only at hSW)
  first | (go_simp; done) | (obtain ⟨s0, ⟨s1, s2, s3, s4, s5⟩, s6⟩ := hSW; (try simp only [Nat.zero_add] at s1 s2 s3 s4 s5); (try simp only [evV]); go_simp; done) | exact rfl | (go_simp; rfl) | (go_simp; omega)
 try simp only [pUt, pUn, sEt, sEz, sEs]
 refine tkn (i := 5) (v := evV x) (fun W' hSW => ?_) ?_
 ·(try dsimp only at hSW)
  first | (go_simp; done) | (obtain ⟨s0, ⟨s1, s2, s3, s4, s5⟩, s6⟩ := hSW; (try simp only [Nat.zero_add] at s1 s2 s3 s4 s5); (try simp only [evV]); go_simp; done) | exact rfl | (go_simp; rfl) | (go_simp; omega)
 try simp only [pUt, pUn, sEt, sEz, sEs]
 refine take_call (i := 6) rfl (by kernel_rfl) (by kernel_rfl) (fun K hK => ?_)
 go_simp
 refine (of_any x _).mono ?_
 rintro e W5 ⟨rfl, f35'⟩
 have f35 : Fr0 none' W3 W5 := (Fr0.refl none' W3).drew.trans f35'
 have h5 := H3.out.fr0 f35 (fun _ _ h => h)
 have hy5 : (x, p) ∈ (x, p) :: r := List.mem_cons_self
 obtain ⟨pl, hpl, htk⟩ := h5.ok.tk _ hy5
 obtain ⟨hi1, hi2⟩ := rightE_i64 (h5.right _ hy5)
 obtain ⟨kl, hkl⟩ := name_key_is hi1 hi2
 have hlook := (h5.nm.look (Go.Maps.Keyed.of_law name_law) Tryz.underlying67 (zero_ref W5) hy5 hkl).2
 rw [lifeP_at hpl] at hlook
 have HRem := Lib.hid (Qremove_is h5 hy5 hpl hT)
 simp only at HRem
 have Hlook := Lib.hid (show (Instr.lookup 67 (.map (some mb)) (nameV x.name) false).run Tryz.prog W5 = .ok (.agg #[.int .i64 p, .int .i64 pl.life]) W5 from hlook)
 have hS5 := Skey.out W5 (fun k hk => f35.block k (hlt3 k hk) id)
 have H5 := Lib.hid h5
 have F5 := Lib.hid (F3.out.trans f35)
 have bo5 := Lib.hid ((f35.block q (Array.getElem?_eq_some_iff.1 bo3.out).1 id).trans bo3.out)
 have F35 := Lib.hid f35
 have Hlt3 := Lib.hid hlt3
 refine hK.out _ _ hS5 (fun hHeld2 => ?_)
 clear hK K f35' f35 h5 hlook hkl hi1 hi2 hpl htk hlt3
 try simp only [pUt, pUn, sEt, sEz, sEs]
 refine take_call (i := 7) rfl (by kernel_rfl) (by kernel_rfl) (fun K hK => ?_)
 have hlook := Hlook.out
 go_simp
 refine hK.out _ _ hS5 (fun hHeld3 => ?_)
 clear hK K hlook
 try simp only [pUt, pUn, sEt, sEz, sEs]
 refine take_call (i := 8) rfl (by kernel_rfl) (by kernel_rfl) (fun K hK => ?_)
 go_simp
 refine HRem.out.mono ?_
 rintro e W7 ⟨rfl, hv', hQ7, f57, own7⟩
 have hold : ∀ k, w.heap.size ≤ k → ¬ qfoot qb sb pb hb ba eb mb hv k := fun k hk hf => by have := H.out.lt k hf; omega
 have hq0 : w.heap.size ≤ q := by have := Hq.out; omega
 have hq4 : w.heap.size ≤ q4 := by have := Hq4.out; have := F1.out.size; omega
 have hqq : q ≠ q4 := by have := Hq4.out; have := (Array.getElem?_eq_some_iff.1 HBO.out).1; omega
 have hl5 : ∀ k, k < W3.heap.size → k < W5.heap.size := fun k hk => by have := F35.out.size; omega
 have hk7 : ∀ k, k = qb ∨ k = q4 → W7.heap[k]? = W3.heap[k]? := fun k hk => by
  rcases hk with rfl | rfl
  ·exact hQ7.hd.trans H3.out.hd.symm
  ·have h1 := Hlt3.out _ (.inr rfl)
   exact (f57.block _ (hl5 _ h1) (hold _ hq4)).trans (F35.out.block _ h1 id)
 have bo7 := Lib.hid ((f57.block q (Array.getElem?_eq_some_iff.1 bo5.out).1 (hold _ hq0)).trans bo5.out)
 have hS7 := Skey.out W7 hk7
 have HQ7 := Lib.hid hQ7
 have F7 := Lib.hid ((F5.out.mono (fun _ _ h => h.elim)).trans f57)
 have own7 := Lib.hid (show ∀ g, hv'.ownBlock = some g → hv.ownBlock = some g ∨ W5.heap.size ≤ g from own7)
 refine hK.out _ _ hS7 (fun hHeld4 => ?_)
 clear hK K
 try simp only [pUt, pUn, sEt, sEz, sEs]
 have y0 := cells_in bo7.out 0
 have y1 := cells_in bo7.out 1
 have y2 := cells_in bo7.out 2
 have y3 := cells_in bo7.out 3
 have y4 := cells_in bo7.out 4
 simp at y0 y1 y2 y3 y4
 have t0 := thaw_in bo7.out 0
 have t1 := thaw_in bo7.out 1
 have t2 := thaw_in bo7.out 2
 have t3 := thaw_in bo7.out 3
 have t4 := thaw_in bo7.out 4
 refine take_call (i := 9) rfl (by kernel_rfl) (by kernel_rfl) (fun K hK => ?_)
 simp only [evV]
 go_simp
 obtain ⟨W8, hW8⟩ : ∃ W, (((((W7.setCell ⟨q, 0, none⟩ (.int .i64 x.key.time)).setCell ⟨q, 1, none⟩ (.int .i64 x.key.source)).setCell ⟨q, 2, none⟩ (.int .i64 x.key.seq)).setCell ⟨q, 3, none⟩ (.int .i64 x.to)).setCell ⟨q, 4, none⟩ (.int .i64 x.value)) = W := ⟨_, rfl⟩
 try rw [hW8]
 have e8 : W8.heap[q]? = some (.cells #[.int .i64 x.key.time, .int .i64 x.key.source, .int .i64 x.key.seq, .int .i64 x.to, .int .i64 x.value] 28 (0, 0)) := by rw [← hW8]; exact ev_set5 bo7.out _ _ _ _ _
 have f78 : Fr0 (fun k => k = q) W7 W8 := by rw [← hW8]; exact (((((Fr0.refl (fun k => k = q) W7).setCell (fun _ => rfl) _).setCell (fun _ => rfl) _).setCell (fun _ => rfl) _).setCell (fun _ => rfl) _).setCell (fun _ => rfl) _
 have hl7 : ∀ k, k = qb ∨ k = q4 → k < W7.heap.size := fun k hk => by have h1 := hl5 _ (Hlt3.out k hk); have h2 := f57.size; omega
 have hS8 := Skey.out W8 (fun k hk => (f78.block k (hl7 k hk) (fun e => by
  rcases hk with rfl | rfl
  ·have := H.out.lt k (.inl rfl); omega
  ·exact hqq e.symm)).trans (hk7 k hk))
 refine hK.out _ _ hS8 (fun hHeld5 => ?_)
 clear hK K y0 y1 y2 y3 y4 t0 t1 t2 t3 t4
 try simp only [pUt, pUn, sEt, sEz, sEs]
 refine take_call (i := 10) rfl (by kernel_rfl) (by kernel_rfl) (fun K hK => ?_)
 go_simp
 refine hK.out _ _ hS8 (fun hHeld6 => ?_)
 clear hK K
 try simp only [pUt, pUn, sEt, sEz, sEs]
 refine wpAnyH_done (by kernel_rfl) ?_ _
 have hQ8 := HQ7.out.fr0 f78 (fun k hk e => by
  have h1 : ∀ j, qfoot qb sb pb hb ba eb mb hv j → j ≠ q := fun j hj => by
   have := H.out.lt j hj
   omega
  rcases hk with h | h | h | h | h | h | h | h
  ·exact h1 k (.inl h) e
  ·exact h1 k (.inr (.inl h)) e
  ·exact h1 k (.inr (.inr (.inl h))) e
  ·exact h1 k (.inr (.inr (.inr (.inl h)))) e
  ·exact h1 k (.inr (.inr (.inr (.inr (.inl h))))) e
  ·exact h1 k (.inr (.inr (.inr (.inr (.inr (.inl h)))))) e
  ·exact h1 k (.inr (.inr (.inr (.inr (.inr (.inr (.inl h))))))) e
  ·rcases own7.out k h with g | g
   ·exact h1 k (.inr (.inr (.inr (.inr (.inr (.inr (.inr g))))))) e
   ·have := hl5 _ (Array.getElem?_eq_some_iff.1 bo3.out).1; omega)
 have f8 : Fr0 (qfoot qb sb pb hb ba eb mb hv) w W8 := F7.out.trans' f78 (fun k hk e => by omega)
 have own8 : ∀ g, hv'.ownBlock = some g → hv.ownBlock = some g ∨ w.heap.size ≤ g := fun g hg => (own7.out g hg).imp id (fun h => Nat.le_trans F5.out.size h)
 clear hS5 hS7 hS8 hHeld hHeld2 hHeld3 hHeld4 hHeld5 hHeld6 hk7 hl7 hl5
 go_wp2_with fail
 have y0 := cells_in e8 0
 have y1 := cells_in e8 1
 have y2 := cells_in e8 2
 have y3 := cells_in e8 3
 have y4 := cells_in e8 4
 simp at y0 y1 y2 y3 y4
 exact bodyPost_ret (v := .tuple #[evV x, .int .i64 0]) (by simp [results, Tryz.results28, go_sem, y0, y1, y2, y3, y4, evV]) rfl ⟨rfl, hv', _, _, _, _, hQ8, f8, own8⟩
end Go.Proofs.YtmcgipilopfgoaaGreat

/-
  The queue: Cancel, Find.
-/
namespace Go.Proofs.YtmcgipilopfgoaaGreat
open Go Go.RowKit Go.ChangeMaps
attribute [local go_sem ↓] Go.wp_at_zero Go.wp_at_succ
attribute [local go_sem] Oper.semAt_some wide_fn wide_depth wide_fnR wide_depthR
variable {w : World} {qb sb pb hb ba eb mb n T : Nat} {hv : Value} {X : List Pd} {F : List Nat} {P : List Pl} {first : Int} {V : List Ev}


theorem QIs.take {E : List Ev} {ft : Nat → Prop} (h : QIs w qb n T E ft) (hT : T < 4294967296) :
  Calls Tryz.prog 28 #[.pointer (some ⟨qb, 0, none⟩)] w fun e w' => e = .returned (.tuple #[evV (lstE E), .int .i64 (if E = [] then 6 else 0)]) ∧ QIs w' qb n T E.tail (qgrow ft w w') ∧ Fr0 ft w w' := by
 obtain ⟨sb, pb, hb, ba, eb, mb, hv, X, F, P, first, V, h1, rfl, h3, h4⟩ := h
 cases X with
 | nil =>
  refine (QTake_nil h1).mono ?_
  rintro e w' ⟨rfl, hf⟩
  exact ⟨rfl, (h1.fr0 hf (fun _ _ h => h)).grown rfl h3 h4 hf.size (fun g hg => .inl hg), hf.mono (fun _ _ h => h.elim)⟩
 | cons y r =>
  refine (QTake_cons h1 hT).mono ?_
  rintro e w' ⟨rfl, hv', F', P', first', V', hq, hf, own⟩
  refine ⟨by simp [lstE], hq.grown ?_ h3 h4 hf.size own, hf.mono (fun k _ hk => h3 k hk)⟩
  rw [delX_fst h1.once h1.ok.snd List.mem_cons_self]
  exact delE_first h1.once
theorem QIs.least {E : List Ev} {ft : Nat → Prop} (h : QIs w qb n T E ft) : Calls Tryz.prog 23 #[.pointer (some ⟨qb, 0, none⟩)] w fun e w' => e = .returned (.tuple #[evV (lstE E), .bool !E.isEmpty]) ∧ Fr0 none' w w' := by
 obtain ⟨sb, pb, hb, ba, eb, mb, hv, X, F, P, first, V, h1, rfl, h3, h4⟩ := h
 refine (QLeast_is h1).mono ?_
 rintro e w' ⟨rfl, hf⟩
 exact ⟨by simp, hf⟩
theorem QIs.all {E : List Ev} {ft : Nat → Prop} (h : QIs w qb n T E ft) : Calls Tryz.prog 33 #[.pointer (some ⟨qb, 0, none⟩)] w fun e w' => ∃ v, e = .returned v ∧ w'.ownsRow w.heap.size 28 5 v E.length (flatEv E) ∧ Fr0 none' w w' := by
 obtain ⟨sb, pb, hb, ba, eb, mb, hv, X, F, P, first, V, h1, rfl, h3, h4⟩ := h
 refine (QAll_is h1).mono ?_
 rintro e w' ⟨v, rfl, hr, hf⟩
 rw [List.length_map]
 exact ⟨v, rfl, hr, hf⟩
theorem QIs.len {E : List Ev} {ft : Nat → Prop} (h : QIs w qb n T E ft) : Calls Tryz.prog 35 #[.pointer (some ⟨qb, 0, none⟩)] w fun e w' => e = .returned (.int .i64 (E.length : Nat)) ∧ w = w' := by
 obtain ⟨sb, pb, hb, ba, eb, mb, hv, X, F, P, first, V, h1, rfl, h3, h4⟩ := h
 refine (QLen_is h1).mono ?_
 rintro e w' ⟨rfl, rfl⟩
 exact ⟨by rw [List.length_map], rfl⟩
theorem QIs.room {E : List Ev} {ft : Nat → Prop} (h : QIs w qb n T E ft) : Calls Tryz.prog 25 #[.pointer (some ⟨qb, 0, none⟩)] w fun e w' => e = .returned (.int .i64 (n - E.length : Nat)) ∧ Fr0 none' w w' := by
 obtain ⟨sb, pb, hb, ba, eb, mb, hv, X, F, P, first, V, h1, rfl, h3, h4⟩ := h
 refine (QRoom_is h1).mono ?_
 rintro e w' ⟨rfl, hf⟩
 exact ⟨by rw [List.length_map], hf⟩
theorem QIs.le {E : List Ev} {ft : Nat → Prop} (h : QIs w qb n T E ft) : E.length ≤ n ∧ n ≤ 256 := by
 obtain ⟨sb, pb, hb, ba, eb, mb, hv, X, F, P, first, V, h1, rfl, h3, h4⟩ := h
 have := h1.ok.count
 have := h1.n256
 rw [List.length_map]
 omega
theorem QIs.good {E : List Ev} {ft : Nat → Prop} (h : QIs w qb n T E ft) : AscE E ∧ OnceE E ∧ ∀ x ∈ E, RightE x := by
 obtain ⟨sb, pb, hb, ba, eb, mb, hv, X, F, P, first, V, h1, rfl, h3, h4⟩ := h
 refine ⟨h1.asc, h1.once, fun x hx => ?_⟩
 obtain ⟨y, hy, rfl⟩ := List.mem_map.1 hx
 exact h1.right y hy
theorem QIs.lt {E : List Ev} {ft : Nat → Prop} (h : QIs w qb n T E ft) : ∀ k, ft k → k < w.heap.size := by
 obtain ⟨sb, pb, hb, ba, eb, mb, hv, X, F, P, first, V, h1, rfl, h3, h4⟩ := h
 exact h4
theorem QIs.mono {T' : Nat} {E : List Ev} {ft : Nat → Prop} (h : QIs w qb n T E ft) (hT : T ≤ T') : QIs w qb n T' E ft := by
 obtain ⟨sb, pb, hb, ba, eb, mb, hv, X, F, P, first, V, h1, h2, h3, h4⟩ := h
 exact ⟨sb, pb, hb, ba, eb, mb, hv, X, F, P, first, V, { h1 with ok := h1.ok.mono hT }, h2, h3, h4⟩
set_option maxRecDepth 100000 in
set_option maxHeartbeats 1000000 in
theorem QFind_none {nm : Int × Int} (h : QIn w qb sb pb hb ba eb mb hv n T X F P first V) (h1 : I64 nm.1) (h2 : I64 nm.2) (hn : ∀ y ∈ X, y.1.name ≠ nm) :
  Calls Tryz.prog 32 #[.pointer (some ⟨qb, 0, none⟩), .int .i64 nm.1, .int .i64 nm.2] w fun e w' => e = .returned (.tuple #[evV zeroEv, .bool false]) ∧ Fr0 none' w w' := by
 have H := Lib.hid h
 obtain ⟨kl, hkl⟩ := name_key_is h1 h2
 have HL := Lib.hid (fun W (hf : Fr0 none' w W) => (h.fr0 hf (fun _ _ h => h)).nm.none (Go.Maps.Keyed.of_law name_law) Tryz.underlying67 (zero_ref W) hn hkl)
 obtain ⟨za, hza⟩ : ∃ za : Int, (0 : Int) = za := ⟨_, rfl⟩
 have hrz : refV 0 0 = .agg #[.int .i64 za, .int .i64 za] := by rw [← hza]; rfl
 rw [hrz] at HL
 unfold nameV at HL
 clear h h1 h2 hkl hn hza hrz
 go_enter Tryz.func32, Tryz.ntmps32
 go_wp2_with fail
 obtain ⟨q, hq⟩ : ∃ q, w.heap.size = q := ⟨_, rfl⟩
 obtain ⟨W1, hW1⟩ : ∃ W, w.alloc (.cells #[.int .i64 0, .int .i64 0, .int .i64 0, .int .i64 0, .int .i64 0] 28) = W := ⟨_, rfl⟩
 have hbq := Lib.hid (show W1.heap[q]? = some (.cells #[.int .i64 0, .int .i64 0, .int .i64 0, .int .i64 0, .int .i64 0] 28 (0, 0)) by rw [← hW1, ← hq]; exact World.alloc_heap_new w _)
 have F1 := Lib.hid (show Fr0 none' w W1 by rw [← hW1]; exact (Fr0.refl _ _).alloc _)
 rw [hW1]
 try rw [hq]
 have Hq := Lib.hid hq
 clear hW1 hq
 have h1 := H.out.fr0 F1.out (fun _ _ h => h)
 have H1 := Lib.hid h1
 refine (qnone_is h1).mono ?_
 rintro e w1 ⟨rfl, rfl⟩
 clear h1
 have c3 := H1.out.c3
 have hl := HL.out W1 F1.out
 obtain ⟨W2, hW2⟩ : ∃ W2, W1.alloc (.cells #[.int .i64 za, .int .i64 za] 112) = W2 := ⟨_, rfl⟩
 have f2 : Fr0 none' w W2 := by rw [← hW2]; exact F1.out.alloc _
 have b2 : W2.heap[q]? = some (.cells #[.int .i64 0, .int .i64 0, .int .i64 0, .int .i64 0, .int .i64 0] 28 (0, 0)) := by rw [← hW2]; exact (Below.heap_alloc _ _ _ (Array.getElem?_eq_some_iff.1 hbq.out).1).trans hbq.out
 clear hbq F1
 have F1 := Lib.hid f2
 have hbq := Lib.hid b2
 clear f2 b2
 have t0 := thaw_in hbq.out 0
 have t1 := thaw_in hbq.out 1
 have t2 := thaw_in hbq.out 2
 have t3 := thaw_in hbq.out 3
 have t4 := thaw_in hbq.out 4
 have y0 := cells_in hbq.out 0
 have y1 := cells_in hbq.out 1
 have y2 := cells_in hbq.out 2
 have y3 := cells_in hbq.out 3
 have y4 := cells_in hbq.out 4
 simp at y0 y1 y2 y3 y4
 go_wp2_with fail
 clear hW2
 have e6 := ev_set5 hbq.out (.int .i64 0) (.int .i64 0) (.int .i64 0) (.int .i64 0) (.int .i64 0)
 have f6 : Fr0 none' w (((((W2.setCell ⟨q, 0, none⟩ (.int .i64 0)).setCell ⟨q, 1, none⟩ (.int .i64 0)).setCell ⟨q, 2, none⟩ (.int .i64 0)).setCell ⟨q, 3, none⟩ (.int .i64 0)).setCell ⟨q, 4, none⟩ (.int .i64 0)) := F1.out.trans' (S' := fun k => k = q) (((((Fr0.refl (fun k => k = q) W2).setCell (fun _ => rfl) _).setCell (fun _ => rfl) _).setCell (fun _ => rfl) _).setCell (fun _ => rfl) _ |>.setCell (fun _ => rfl) _) (fun k hk e => by have := Hq.out; omega)
 generalize (((((W2.setCell ⟨q, 0, none⟩ (.int .i64 0)).setCell ⟨q, 1, none⟩ (.int .i64 0)).setCell ⟨q, 2, none⟩ (.int .i64 0)).setCell ⟨q, 3, none⟩ (.int .i64 0)).setCell ⟨q, 4, none⟩ (.int .i64 0)) = VV at e6 f6 ⊢
 clear y0 y1 y2 y3 y4
 have y0 := cells_in e6 0
 have y1 := cells_in e6 1
 have y2 := cells_in e6 2
 have y3 := cells_in e6 3
 have y4 := cells_in e6 4
 simp at y0 y1 y2 y3 y4
 exact bodyPost_ret (v := .tuple #[evV zeroEv, .bool false]) (by simp [results, Tryz.results32, go_sem, y0, y1, y2, y3, y4, evV, zeroEv]) rfl ⟨rfl, f6⟩
set_option maxRecDepth 100000 in
set_option maxHeartbeats 1000000 in
theorem QFind_some {y : Pd} (h : QIn w qb sb pb hb ba eb mb hv n T X F P first V) (hy : y ∈ X) :
  Calls Tryz.prog 32 #[.pointer (some ⟨qb, 0, none⟩), .int .i64 y.1.key.source, .int .i64 y.1.key.seq] w fun e w' => e = .returned (.tuple #[evV y.1, .bool true]) ∧ Fr0 none' w w' := by
 have H := Lib.hid h
 obtain ⟨x, p⟩ := y
 obtain ⟨pl, hpl, _⟩ := h.ok.tk _ hy
 obtain ⟨hi1, hi2⟩ := rightE_i64 (h.right _ hy)
 obtain ⟨kl, hkl⟩ := name_key_is hi1 hi2
 have HL := Lib.hid (fun W (hf : Fr0 none' w W) => ((h.fr0 hf (fun _ _ h => h)).nm.look (Go.Maps.Keyed.of_law name_law) Tryz.underlying67 (zero_ref W) hy hkl).1)
 rw [lifeP_at hpl] at HL
 unfold nameV refV Ev.name at HL
 simp only at HL ⊢
 have hvx := h.vx _ hy
 have hpn : p < n := h.ok.xlt hy
 have Hvx := Lib.hid hvx
 have z1 : (0 : Int) ≤ (p : Int) := by omega
 have z2 : (p : Int) < (n : Int) := by omega
 simp only at hpl hvx
 clear h hkl hi1 hi2 hpl hvx hy
 go_enter Tryz.func32, Tryz.ntmps32
 go_wp2_with fail
 obtain ⟨q, hq⟩ : ∃ q, w.heap.size = q := ⟨_, rfl⟩
 obtain ⟨W1, hW1⟩ : ∃ W, w.alloc (.cells #[.int .i64 0, .int .i64 0, .int .i64 0, .int .i64 0, .int .i64 0] 28) = W := ⟨_, rfl⟩
 have hbq := Lib.hid (show W1.heap[q]? = some (.cells #[.int .i64 0, .int .i64 0, .int .i64 0, .int .i64 0, .int .i64 0] 28 (0, 0)) by rw [← hW1, ← hq]; exact World.alloc_heap_new w _)
 have F1 := Lib.hid (show Fr0 none' w W1 by rw [← hW1]; exact (Fr0.refl _ _).alloc _)
 rw [hW1]
 try rw [hq]
 have Hq := Lib.hid hq
 clear hW1 hq
 have h1 := H.out.fr0 F1.out (fun _ _ h => h)
 have H1 := Lib.hid h1
 refine (qnone_is h1).mono ?_
 rintro e w1 ⟨rfl, rfl⟩
 clear h1
 have c3 := H1.out.c3
 have hl := HL.out W1 F1.out
 obtain ⟨W2, hW2⟩ : ∃ W2, W1.alloc (.cells #[.int .i64 p, .int .i64 pl.life] 112) = W2 := ⟨_, rfl⟩
 have f12 : Fr0 none' W1 W2 := by rw [← hW2]; exact (Fr0.refl _ _).alloc _
 have f2 : Fr0 none' w W2 := F1.out.trans f12
 have b2 := (f12.block q (Array.getElem?_eq_some_iff.1 hbq.out).1 id).trans hbq.out
 have br2 : W2.heap[W1.heap.size]? = some (.cells #[.int .i64 p, .int .i64 pl.life] 112 (0, 0)) := by rw [← hW2]; exact World.alloc_heap_new W1 _
 have H2 := Lib.hid (H1.out.fr0 f12 (fun _ _ h => h))
 clear hbq F1
 have F1 := Lib.hid f2
 have hbq := Lib.hid b2
 have Br2 := Lib.hid br2
 obtain ⟨q2, hq2⟩ : ∃ q2, W1.heap.size = q2 := ⟨_, rfl⟩
 rw [hq2] at Br2
 have r0 := cells_in Br2.out 0
 have r1 := cells_in Br2.out 1
 simp at r0 r1
 have c2 := H2.out.c2
 obtain ⟨e0, e1, e2, e3, e4⟩ := H2.out.event Hvx.out
 clear f2 b2 f12 br2
 have t0 := thaw_in hbq.out 0
 have t1 := thaw_in hbq.out 1
 have t2 := thaw_in hbq.out 2
 have t3 := thaw_in hbq.out 3
 have t4 := thaw_in hbq.out 4
 have y0 := cells_in hbq.out 0
 have y1 := cells_in hbq.out 1
 have y2 := cells_in hbq.out 2
 have y3 := cells_in hbq.out 3
 have y4 := cells_in hbq.out 4
 simp at y0 y1 y2 y3 y4
 go_wp2_with fail
 clear hW2
 go_still_tail 8, (by kernel_rfl)
 change wpList _ _ _ _ _ W2.drew
 go_wp2_with fail
 obtain ⟨W3, hW3⟩ : ∃ W, (((((W2.setCell ⟨q, 0, none⟩ (.int .i64 x.key.time)).setCell ⟨q, 1, none⟩ (.int .i64 x.key.source)).setCell ⟨q, 2, none⟩ (.int .i64 x.key.seq)).setCell ⟨q, 3, none⟩ (.int .i64 x.to)).setCell ⟨q, 4, none⟩ (.int .i64 x.value)) = W := ⟨_, rfl⟩
 have e8 : W3.drew.heap[q]? = some (.cells #[.int .i64 x.key.time, .int .i64 x.key.source, .int .i64 x.key.seq, .int .i64 x.to, .int .i64 x.value] 28 (0, 0)) := by rw [← hW3]; exact ev_set5 hbq.out _ _ _ _ _
 have f6 : Fr0 none' w W3.drew := by
  rw [← hW3]
  exact (F1.out.trans' (S' := fun k => k = q) ((((((Fr0.refl (fun k => k = q) W2).setCell (fun _ => rfl) _).setCell (fun _ => rfl) _).setCell (fun _ => rfl) _).setCell (fun _ => rfl) _).setCell (fun _ => rfl) _) (fun k hk e => by have := Hq.out; omega)).drew
 try rw [hW3]
 clear y0 y1 y2 y3 y4
 have y0 := cells_in e8 0
 have y1 := cells_in e8 1
 have y2 := cells_in e8 2
 have y3 := cells_in e8 3
 have y4 := cells_in e8 4
 simp at y0 y1 y2 y3 y4
 exact bodyPost_ret (v := .tuple #[evV x, .bool true]) (by simp [results, Tryz.results32, go_sem, y0, y1, y2, y3, y4, evV]) rfl ⟨rfl, f6⟩
/-- Find, on a queue. -/
theorem QIs.find {E : List Ev} {ft : Nat → Prop} (h : QIs w qb n T E ft) {nm : Int × Int} (h1 : I64 nm.1) (h2 : I64 nm.2) :
  Calls Tryz.prog 32 #[.pointer (some ⟨qb, 0, none⟩), .int .i64 nm.1, .int .i64 nm.2] w fun e w' => e = .returned (.tuple #[evV ((findE nm E).getD zeroEv), .bool (findE nm E).isSome]) ∧ Fr0 none' w w' := by
 obtain ⟨sb, pb, hb, ba, eb, mb, hv, X, F, P, first, V, hq, rfl, h3, h4⟩ := h
 cases hf : findE nm (X.map Prod.fst) with
 | none =>
  rw [findE_none] at hf
  exact QFind_none hq h1 h2 (fun y hy => hf _ (List.mem_map.2 ⟨y, hy, rfl⟩))
 | some x =>
  rw [findE_some hq.once] at hf
  obtain ⟨hm, hn⟩ := hf
  obtain ⟨y, hy, rfl⟩ := List.mem_map.1 hm
  subst hn
  exact QFind_some hq hy
end Go.Proofs.YtmcgipilopfgoaaGreat

/-
  The queue: Cancel.
-/
namespace Go.Proofs.YtmcgipilopfgoaaGreat
open Go Go.RowKit Go.ChangeMaps
attribute [local go_sem ↓] Go.wp_at_zero Go.wp_at_succ
attribute [local go_sem] Oper.semAt_some wide_fn wide_depth wide_fnR wide_depthR
variable {w : World} {qb sb pb hb ba eb mb n T : Nat} {hv : Value} {X : List Pd} {F : List Nat} {P : List Pl} {first : Int} {V : List Ev}


set_option maxRecDepth 100000 in
set_option maxHeartbeats 1000000 in
theorem QCancel_none {nm : Int × Int} (h : QIn w qb sb pb hb ba eb mb hv n T X F P first V) (h1 : I64 nm.1) (h2 : I64 nm.2) (hn : ∀ y ∈ X, y.1.name ≠ nm) :
  Calls Tryz.prog 27 #[.pointer (some ⟨qb, 0, none⟩), .int .i64 nm.1, .int .i64 nm.2] w fun e w' => e = .returned (.tuple #[evV zeroEv, .int .i64 6]) ∧ Fr0 none' w w' := by
 have H := Lib.hid h
 obtain ⟨kl, hkl⟩ := name_key_is h1 h2
 have HL := Lib.hid (fun W (hf : Fr0 none' w W) => (h.fr0 hf (fun _ _ h => h)).nm.none (Go.Maps.Keyed.of_law name_law) Tryz.underlying67 (zero_ref W) hn hkl)
 obtain ⟨za, hza⟩ : ∃ za : Int, (0 : Int) = za := ⟨_, rfl⟩
 have hrz : refV 0 0 = .agg #[.int .i64 za, .int .i64 za] := by rw [← hza]; rfl
 rw [hrz] at HL
 unfold nameV at HL
 clear h h1 h2 hkl hn hza hrz
 go_enter Tryz.func27, Tryz.ntmps27
 go_wp2_with fail
 obtain ⟨q, hq⟩ : ∃ q, w.heap.size = q := ⟨_, rfl⟩
 obtain ⟨W1, hW1⟩ : ∃ W, w.alloc (.cells #[.int .i64 0, .int .i64 0, .int .i64 0, .int .i64 0, .int .i64 0] 28) = W := ⟨_, rfl⟩
 have hbq := Lib.hid (show W1.heap[q]? = some (.cells #[.int .i64 0, .int .i64 0, .int .i64 0, .int .i64 0, .int .i64 0] 28 (0, 0)) by rw [← hW1, ← hq]; exact World.alloc_heap_new w _)
 have F1 := Lib.hid (show Fr0 none' w W1 by rw [← hW1]; exact (Fr0.refl _ _).alloc _)
 rw [hW1]
 try rw [hq]
 have Hq := Lib.hid hq
 clear hW1 hq
 have h1 := H.out.fr0 F1.out (fun _ _ h => h)
 have H1 := Lib.hid h1
 refine (qnone_is h1).mono ?_
 rintro e w1 ⟨rfl, rfl⟩
 clear h1
 have c3 := H1.out.c3
 have hl := HL.out W1 F1.out
 obtain ⟨W2, hW2⟩ : ∃ W2, W1.alloc (.cells #[.int .i64 za, .int .i64 za] 112) = W2 := ⟨_, rfl⟩
 have f2 : Fr0 none' w W2 := by rw [← hW2]; exact F1.out.alloc _
 have b2 : W2.heap[q]? = some (.cells #[.int .i64 0, .int .i64 0, .int .i64 0, .int .i64 0, .int .i64 0] 28 (0, 0)) := by rw [← hW2]; exact (Below.heap_alloc _ _ _ (Array.getElem?_eq_some_iff.1 hbq.out).1).trans hbq.out
 clear hbq F1
 have F1 := Lib.hid f2
 have hbq := Lib.hid b2
 clear f2 b2
 have t0 := thaw_in hbq.out 0
 have t1 := thaw_in hbq.out 1
 have t2 := thaw_in hbq.out 2
 have t3 := thaw_in hbq.out 3
 have t4 := thaw_in hbq.out 4
 have y0 := cells_in hbq.out 0
 have y1 := cells_in hbq.out 1
 have y2 := cells_in hbq.out 2
 have y3 := cells_in hbq.out 3
 have y4 := cells_in hbq.out 4
 simp at y0 y1 y2 y3 y4
 go_wp2_with fail
 clear hW2
 have e6 := ev_set5 hbq.out (.int .i64 0) (.int .i64 0) (.int .i64 0) (.int .i64 0) (.int .i64 0)
 have f6 : Fr0 none' w (((((W2.setCell ⟨q, 0, none⟩ (.int .i64 0)).setCell ⟨q, 1, none⟩ (.int .i64 0)).setCell ⟨q, 2, none⟩ (.int .i64 0)).setCell ⟨q, 3, none⟩ (.int .i64 0)).setCell ⟨q, 4, none⟩ (.int .i64 0)) := F1.out.trans' (S' := fun k => k = q) (((((Fr0.refl (fun k => k = q) W2).setCell (fun _ => rfl) _).setCell (fun _ => rfl) _).setCell (fun _ => rfl) _).setCell (fun _ => rfl) _ |>.setCell (fun _ => rfl) _) (fun k hk e => by have := Hq.out; omega)
 generalize (((((W2.setCell ⟨q, 0, none⟩ (.int .i64 0)).setCell ⟨q, 1, none⟩ (.int .i64 0)).setCell ⟨q, 2, none⟩ (.int .i64 0)).setCell ⟨q, 3, none⟩ (.int .i64 0)).setCell ⟨q, 4, none⟩ (.int .i64 0)) = VV at e6 f6 ⊢
 clear y0 y1 y2 y3 y4
 have y0 := cells_in e6 0
 have y1 := cells_in e6 1
 have y2 := cells_in e6 2
 have y3 := cells_in e6 3
 have y4 := cells_in e6 4
 simp at y0 y1 y2 y3 y4
 exact bodyPost_ret (v := .tuple #[evV zeroEv, .int .i64 6]) (by simp [results, Tryz.results27, go_sem, y0, y1, y2, y3, y4, evV, zeroEv]) rfl ⟨rfl, f6⟩
set_option maxRecDepth 100000 in
set_option maxHeartbeats 1000000 in
theorem QCancel_some {y : Pd} (h : QIn w qb sb pb hb ba eb mb hv n T X F P first V) (hy : y ∈ X) (hT : T < 4294967296) :
  Calls Tryz.prog 27 #[.pointer (some ⟨qb, 0, none⟩), .int .i64 y.1.key.source, .int .i64 y.1.key.seq] w fun e w' => e = .returned (.tuple #[evV y.1, .int .i64 0]) ∧ ∃ hv' F' P' first' V', QIn w' qb sb pb hb ba eb mb hv' n T (delX y.2 X) F' P' first' V' ∧ Fr0 (qfoot qb sb pb hb ba eb mb hv) w w' ∧ ∀ g, hv'.ownBlock = some g → hv.ownBlock = some g ∨ w.heap.size ≤ g := by
 have H := Lib.hid h
 obtain ⟨x, p⟩ := y
 obtain ⟨pl, hpl, _⟩ := h.ok.tk _ hy
 have Hpl := Lib.hid hpl
 have Hy := Lib.hid hy
 obtain ⟨hi1, hi2⟩ := rightE_i64 (h.right _ hy)
 obtain ⟨kl, hkl⟩ := name_key_is hi1 hi2
 have HL := Lib.hid (fun W (hf : Fr0 none' w W) => ((h.fr0 hf (fun _ _ h => h)).nm.look (Go.Maps.Keyed.of_law name_law) Tryz.underlying67 (zero_ref W) hy hkl).1)
 rw [lifeP_at hpl] at HL
 unfold nameV refV Ev.name at HL
 simp only at HL ⊢
 have hvx := h.vx _ hy
 have hpn : p < n := h.ok.xlt hy
 have Hvx := Lib.hid hvx
 have z1 : (0 : Int) ≤ (p : Int) := by omega
 have z2 : (p : Int) < (n : Int) := by omega
 simp only at hpl hvx
 clear h hkl hi1 hi2 hpl hvx hy
 go_enter Tryz.func27, Tryz.ntmps27
 go_wp2_with fail
 obtain ⟨q, hq⟩ : ∃ q, w.heap.size = q := ⟨_, rfl⟩
 obtain ⟨W1, hW1⟩ : ∃ W, w.alloc (.cells #[.int .i64 0, .int .i64 0, .int .i64 0, .int .i64 0, .int .i64 0] 28) = W := ⟨_, rfl⟩
 have hbq := Lib.hid (show W1.heap[q]? = some (.cells #[.int .i64 0, .int .i64 0, .int .i64 0, .int .i64 0, .int .i64 0] 28 (0, 0)) by rw [← hW1, ← hq]; exact World.alloc_heap_new w _)
 have F1 := Lib.hid (show Fr0 none' w W1 by rw [← hW1]; exact (Fr0.refl _ _).alloc _)
 rw [hW1]
 try rw [hq]
 have Hq := Lib.hid hq
 clear hW1 hq
 have h1 := H.out.fr0 F1.out (fun _ _ h => h)
 have H1 := Lib.hid h1
 refine (qnone_is h1).mono ?_
 rintro e w1 ⟨rfl, rfl⟩
 clear h1
 have c3 := H1.out.c3
 have hl := HL.out W1 F1.out
 obtain ⟨W2, hW2⟩ : ∃ W2, W1.alloc (.cells #[.int .i64 p, .int .i64 pl.life] 112) = W2 := ⟨_, rfl⟩
 have f12 : Fr0 none' W1 W2 := by rw [← hW2]; exact (Fr0.refl _ _).alloc _
 have f2 : Fr0 none' w W2 := F1.out.trans f12
 have b2 := (f12.block q (Array.getElem?_eq_some_iff.1 hbq.out).1 id).trans hbq.out
 have br2 : W2.heap[W1.heap.size]? = some (.cells #[.int .i64 p, .int .i64 pl.life] 112 (0, 0)) := by rw [← hW2]; exact World.alloc_heap_new W1 _
 have H2 := Lib.hid (H1.out.fr0 f12 (fun _ _ h => h))
 have BQ := Lib.hid hbq.out
 clear hbq F1
 have F1 := Lib.hid f2
 have hbq := Lib.hid b2
 have Br2 := Lib.hid br2
 obtain ⟨q2, hq2⟩ : ∃ q2, W1.heap.size = q2 := ⟨_, rfl⟩
 rw [hq2] at Br2
 have r0 := cells_in Br2.out 0
 have r1 := cells_in Br2.out 1
 simp at r0 r1
 have Hb2 := Lib.hid (show w.heap.size ≤ q ∧ q < W1.heap.size from ⟨by have := Hq.out; omega, by have := (Array.getElem?_eq_some_iff.1 BQ.out).1; exact this⟩)
 clear f2 b2 f12 br2
 have t0 := thaw_in hbq.out 0
 have t1 := thaw_in hbq.out 1
 have t2 := thaw_in hbq.out 2
 have t3 := thaw_in hbq.out 3
 have t4 := thaw_in hbq.out 4
 have y0 := cells_in hbq.out 0
 have y1 := cells_in hbq.out 1
 have y2 := cells_in hbq.out 2
 have y3 := cells_in hbq.out 3
 have y4 := cells_in hbq.out 4
 simp at y0 y1 y2 y3 y4
 go_wp2_with fail
 clear hW2
 have HRem := Lib.hid (Qremove_is H2.out Hy.out Hpl.out hT)
 simp only [evV] at HRem
 refine HRem.out.mono ?_
 rintro e W7 ⟨rfl, hv', hQ7, f57, own7⟩
 have hold : ∀ k, w.heap.size ≤ k → ¬ qfoot qb sb pb hb ba eb mb hv k := fun k hk hf => by have := H.out.lt k hf; omega
 have hb7 := Lib.hid ((f57.block q (Array.getElem?_eq_some_iff.1 hbq.out).1 (hold _ Hb2.out.1)).trans hbq.out)
 have F7 := Lib.hid ((F1.out.mono (fun _ _ h => h.elim)).trans f57)
 have own7 := Lib.hid (show ∀ g, hv'.ownBlock = some g → hv.ownBlock = some g ∨ W2.heap.size ≤ g from own7)
 have HQ7 := Lib.hid hQ7
 have hz2 := (Array.getElem?_eq_some_iff.1 hbq.out).1
 have Hz2 := Lib.hid hz2
 clear y0 y1 y2 y3 y4 t0 t1 t2 t3 t4 hz2 hQ7 f57 hold r0 r1
 have y0 := cells_in hb7.out 0
 have y1 := cells_in hb7.out 1
 have y2 := cells_in hb7.out 2
 have y3 := cells_in hb7.out 3
 have y4 := cells_in hb7.out 4
 simp at y0 y1 y2 y3 y4
 have t0 := thaw_in hb7.out 0
 have t1 := thaw_in hb7.out 1
 have t2 := thaw_in hb7.out 2
 have t3 := thaw_in hb7.out 3
 have t4 := thaw_in hb7.out 4
 go_wp2_with fail
 obtain ⟨W8, hW8⟩ : ∃ W, (((((W7.setCell ⟨q, 0, none⟩ (.int .i64 x.key.time)).setCell ⟨q, 1, none⟩ (.int .i64 x.key.source)).setCell ⟨q, 2, none⟩ (.int .i64 x.key.seq)).setCell ⟨q, 3, none⟩ (.int .i64 x.to)).setCell ⟨q, 4, none⟩ (.int .i64 x.value)) = W := ⟨_, rfl⟩
 try rw [hW8]
 have e8 : W8.heap[q]? = some (.cells #[.int .i64 x.key.time, .int .i64 x.key.source, .int .i64 x.key.seq, .int .i64 x.to, .int .i64 x.value] 28 (0, 0)) := by rw [← hW8]; exact ev_set5 hb7.out _ _ _ _ _
 have f78 : Fr0 (fun k => k = q) W7 W8 := by rw [← hW8]; exact (((((Fr0.refl (fun k => k = q) W7).setCell (fun _ => rfl) _).setCell (fun _ => rfl) _).setCell (fun _ => rfl) _).setCell (fun _ => rfl) _).setCell (fun _ => rfl) _
 have hQ8 := HQ7.out.fr0 f78 (fun k hk e => by
  have h1 : ∀ j, qfoot qb sb pb hb ba eb mb hv j → j ≠ q := fun j hj => by
   have := H.out.lt j hj
   have := Hb2.out.1
   omega
  rcases hk with h | h | h | h | h | h | h | h
  ·exact h1 k (.inl h) e
  ·exact h1 k (.inr (.inl h)) e
  ·exact h1 k (.inr (.inr (.inl h))) e
  ·exact h1 k (.inr (.inr (.inr (.inl h)))) e
  ·exact h1 k (.inr (.inr (.inr (.inr (.inl h))))) e
  ·exact h1 k (.inr (.inr (.inr (.inr (.inr (.inl h)))))) e
  ·exact h1 k (.inr (.inr (.inr (.inr (.inr (.inr (.inl h))))))) e
  ·rcases own7.out k h with g | g
   ·exact h1 k (.inr (.inr (.inr (.inr (.inr (.inr (.inr g))))))) e
   ·have := Hz2.out; omega)
 have f8 : Fr0 (qfoot qb sb pb hb ba eb mb hv) w W8 := F7.out.trans' f78 (fun k hk e => by have := Hb2.out.1; omega)
 have own8 : ∀ g, hv'.ownBlock = some g → hv.ownBlock = some g ∨ w.heap.size ≤ g := fun g hg => (own7.out g hg).imp id (fun h => Nat.le_trans F1.out.size h)
 clear y0 y1 y2 y3 y4
 have y0 := cells_in e8 0
 have y1 := cells_in e8 1
 have y2 := cells_in e8 2
 have y3 := cells_in e8 3
 have y4 := cells_in e8 4
 simp at y0 y1 y2 y3 y4
 exact bodyPost_ret (v := .tuple #[evV x, .int .i64 0]) (by simp [results, Tryz.results27, go_sem, y0, y1, y2, y3, y4, evV]) rfl ⟨rfl, hv', _, _, _, _, hQ8, f8, own8⟩
/-- Cancel, on a queue. -/
theorem QIs.cancel {E : List Ev} {ft : Nat → Prop} (h : QIs w qb n T E ft) {nm : Int × Int} (h1 : I64 nm.1) (h2 : I64 nm.2) (hT : T < 4294967296) :
  Calls Tryz.prog 27 #[.pointer (some ⟨qb, 0, none⟩), .int .i64 nm.1, .int .i64 nm.2] w fun e w' => e = .returned (.tuple #[evV ((findE nm E).getD zeroEv), .int .i64 (if (findE nm E).isSome then 0 else 6)]) ∧ QIs w' qb n T (delE nm E) (qgrow ft w w') ∧ Fr0 ft w w' := by
 obtain ⟨sb, pb, hb, ba, eb, mb, hv, X, F, P, first, V, hq, rfl, h3, h4⟩ := h
 cases hf : findE nm (X.map Prod.fst) with
 | none =>
  rw [findE_none] at hf
  rw [delE_none hf]
  refine (QCancel_none hq h1 h2 (fun y hy => hf _ (List.mem_map.2 ⟨y, hy, rfl⟩))).mono ?_
  rintro e w' ⟨rfl, hf⟩
  exact ⟨rfl, (hq.fr0 hf (fun _ _ h => h)).grown rfl h3 h4 hf.size (fun g hg => .inl hg), hf.mono (fun _ _ h => h.elim)⟩
 | some x =>
  rw [findE_some hq.once] at hf
  obtain ⟨hm, hn⟩ := hf
  obtain ⟨y, hy, rfl⟩ := List.mem_map.1 hm
  subst hn
  refine (QCancel_some hq hy hT).mono ?_
  rintro e w' ⟨rfl, hv', F', P', first', V', hq', hf', own⟩
  exact ⟨rfl, hq'.grown (delX_fst hq.once hq.ok.snd hy) h3 h4 hf'.size own, hf'.mono (fun k _ hk => h3 k hk)⟩
end Go.Proofs.YtmcgipilopfgoaaGreat

/-
  The queue: check.
-/
namespace Go.Proofs.YtmcgipilopfgoaaGreat
open Go Go.RowKit Go.ChangeMaps
attribute [local go_sem ↓] Go.wp_at_zero Go.wp_at_succ
attribute [local go_sem] Oper.semAt_some wide_fn wide_depth wide_fnR wide_depthR

section
variable {P : Program} {k t e : TypeId} {w : World} {b n : Nat} {c : Int × Int → Option Int}
theorem MetIs.put (h : MetIs P k w b n c) (K : Go.WideMaps.KeyLaw P k) (ht : P.underlying t = some (.map k e)) (hn : n < maxLen) {nm : Int × Int} {kl : Lit} (hk : keyOf P k (nameV nm) = some kl) (v : Int) :
  ∃ w', (Instr.mapUpdate t (.map (some b)) (nameV nm) (.int .i64 v)).run P w = .ok () w' ∧ MetIs P k w' b (n + 1) (fun m => if m = nm then some v else c m) ∧ Fr0 (fun j => j = b) w w' := by
 obtain ⟨D, h1, h2⟩ := h
 have hD := h1.tidy (Go.Maps.Keyed.of_law K)
 obtain ⟨w', hr, ho', hm⟩ := h1.store (Go.Maps.Keyed.of_law K) ht hn hk (show intR (.int .i64 v) = some (_, _) from rfl)
 have hg := hm.grown
 refine ⟨w', hr, ⟨_, ho', fun m kl' hk' => ?_⟩, ⟨hg.os, hg.tape, hg.output, hg.size, fun i hi hs => hg.block i hi (fun e => hs (Option.some.inj e))⟩⟩
 by_cases hm : m = nm
 ·subst hm
  rw [hk] at hk'
  cases hk'
  simp only [if_pos rfl]
  exact ⟨Maps.has_put_same hD.isMap ((Go.Maps.Keyed.of_law K).key hk) _, Maps.atKey_put_same hD.isMap ((Go.Maps.Keyed.of_law K).key hk) _ _⟩
 ·have hne : kl' ≠ kl := fun e => by
   subst e
   have := K.inj hk' hk
   unfold nameV at this
   simp only [Value.agg.injEq, Array.mk.injEq, List.cons.injEq, Value.int.injEq, true_and, and_true] at this
   exact hm (Prod.ext this.1 this.2)
  simp only [if_neg hm]
  rw [Maps.has_put_other hne, Maps.atKey_put_other hne]
  exact h2 m kl' hk'
end
variable {w : World} {qb sb pb hb ba eb mb n T : Nat} {hv : Value} {X : List Pd} {F : List Nat} {P : List Pl} {first : Int} {V : List Ev}
theorem QIn.looks (h : QIn w qb sb pb hb ba eb mb hv n T X F P first V) {nm : Int × Int} (h1 : I64 nm.1) (h2 : I64 nm.2) : ∃ pa pb : Int, ∀ W, Fr0 none' w W → (Instr.lookup 67 (.map (some mb)) (nameV nm) true).run Tryz.prog W = .ok (.tuple #[.agg #[.int .i64 pa, .int .i64 pb], .bool ((X.map Prod.fst).any (fun y => y.name == nm))]) W := by
 obtain ⟨kl, hkl⟩ := name_key_is h1 h2
 by_cases hx : ∃ y ∈ X, y.1.name = nm
 ·obtain ⟨y, hy, rfl⟩ := hx
  have ha : (X.map Prod.fst).any (fun z => z.name == y.1.name) = true := by
   rw [List.any_eq_true]
   exact ⟨y.1, List.mem_map.2 ⟨y, hy, rfl⟩, by simp⟩
  rw [ha]
  exact ⟨_, _, fun W hf => ((h.fr0 hf (fun _ _ h => h)).nm.look (Go.Maps.Keyed.of_law name_law) Tryz.underlying67 (zero_ref W) hy hkl).1⟩
 ·have hn : ∀ y ∈ X, y.1.name ≠ nm := fun y hy e => hx ⟨y, hy, e⟩
  have ha : (X.map Prod.fst).any (fun z => z.name == nm) = false := by
   rw [List.any_eq_false]
   intro z hz
   obtain ⟨y, hy, rfl⟩ := List.mem_map.1 hz
   simpa using hn y hy
  rw [ha]
  exact ⟨0, 0, fun W hf => (h.fr0 hf (fun _ _ h => h)).nm.none (Go.Maps.Keyed.of_law name_law) Tryz.underlying67 (zero_ref W) hn hkl⟩
theorem viaT' {T : Type} {P : Program} {c : Code} {K : Act → World → Prop} {Q : Exit → Act → World → Prop} {a : Act} {w : World} (F : T → World → Prop) (vs : T → List (Nat × Value))
  (t : ∀ q W, F q W → K ((vs q).foldl (fun a p => a.put (some p.1) p.2) a) W)
  (h : (∀ q W, F q W → K ((vs q).foldl (fun a p => a.put (some p.1) p.2) a) W) → c.wp P (Exit.then K Q) a w) : c.wp P (Exit.then K Q) a w := h t
set_option maxRecDepth 100000 in
theorem wrong_any (x : Ev) (w : World) : Calls Tryz.prog 79 #[evV x] w fun e w' => e = .returned (.bool (!decide (RightE x))) ∧ Fr0 none' w w' := by
 have HR := Lib.hid (QRight_is x)
 obtain ⟨b, hb⟩ : ∃ b, decide (RightE x) = b := ⟨_, rfl⟩
 rw [hb] at HR ⊢
 clear hb
 unfold evV at HR ⊢
 go_enter Tryz.func79, Tryz.ntmps79
 go_wp2_with fail
 refine (HR.out _).mono ?_
 rintro e w1 ⟨rfl, hf⟩
 go_wp2
 go_ret
 exact ⟨rfl, ((Fr0.refl none' w).alloc _).trans hf⟩
set_option maxRecDepth 100000 in
set_option maxHeartbeats 2000000 in
theorem Qcheck_is (h : QIn w qb sb pb hb ba eb mb hv n T X F P first V) {a : Option Addr} {m cap : Nat} (l : List Ev) (hl : EsIn w a l) (hm : l.length = m) (hm' : m ≤ 100000) :
  Calls Tryz.prog 61 #[.pointer (some ⟨qb, 0, none⟩), .slice a m cap] w fun e w' => e = .returned (.tuple #[.int .i64 (chkE (X.map Prod.fst) l).1, .int .i64 (chkE (X.map Prod.fst) l).2]) ∧ Fr0 none' w w' := by
 obtain ⟨R, hR⟩ : ∃ R, chkE (X.map Prod.fst) l = R := ⟨_, rfl⟩
 rw [hR]
 have HR := Lib.hid hR
 have H := Lib.hid h
 have Hl := Lib.hid hl
 have Hm := Lib.hid hm
 have HI := Lib.hid (IndexE (cap := cap) l hl hm (by omega) 79 #[] (fun x => !decide (RightE x)) (by intro args w; rfl) (fun x W _ => wrong_any x W))
 clear h hl hm hR
 rcases idxI_cases (fun x => !decide (RightE x)) l with ⟨hi, hall⟩ | ⟨k, hi, hkl, _⟩
 ·rw [hi] at HI
  have HA := Lib.hid hall
  have HIe := Lib.hid hi
  clear hi hall
  go_enter Tryz.func61, Tryz.ntmps61
  go_wp2_with fail
  refine HI.out.mono ?_
  rintro e w1 ⟨rfl, hf1⟩
  have F1 := Lib.hid hf1
  clear hf1
  have hmm := @run_makeMap Tryz.prog
  go_wp2_with fail
  clear hmm
  obtain ⟨B, hB⟩ : ∃ B, w1.heap.size = B := ⟨_, rfl⟩
  obtain ⟨W2, hW2⟩ : ∃ W, w1.alloc (.map #[] 0) = W := ⟨_, rfl⟩
  have M2 := Lib.hid (show MetIs Tryz.prog 115 W2 B 0 (fun _ => none) by rw [← hW2, ← hB]; exact met_made w1)
  have F2 := Lib.hid (show Fr0 none' w W2 by rw [← hW2]; exact F1.out.alloc _)
  have HB := Lib.hid (show w.heap.size ≤ B by rw [← hB]; exact F1.out.size)
  rw [hW2]
  try rw [hB]
  clear hW2 hB
  go_loopw [8, 9, 10, 11, 12, 13, 22] (fun _ _ _ _ _ _ i wr => ∃ (k : Nat) (c : Int × Int → Option Int), k ≤ m ∧ i = .int .i64 k ∧ Hid (∀ i, i < k → dupB (X.map Prod.fst) l i = false) ∧ Hid (MetIs Tryz.prog 115 wr B k c) ∧ Hid (∀ nm, (c nm).isSome = (l.take k).any (fun y => y.name == nm)) ∧ Hid (Fr0 none' w wr)) (fun _ _ _ _ _ _ i _ => m - (Go.RowKit.intOf i).toNat)
  case atStart => exact ⟨0, _, Nat.zero_le _, rfl, (fun i hi => absurd hi (Nat.not_lt_zero i)), M2, (fun nm => by simp), F2⟩
  case round =>
   obtain ⟨k, c, hk, rfl, hpre, hmet, hcs, hfr⟩ := hrel
   by_cases hlt : k < m
   ·obtain ⟨x, hx⟩ : ∃ x, l[k]? = some x := ⟨_, List.getElem?_eq_getElem (by rw [Hm.out]; exact hlt)⟩
    obtain ⟨g2, o, rfl, hxc⟩ := Hl.out k x hx
    obtain ⟨x0, x1, x2, x3, x4⟩ := hxc.later hfr.out
    have hre : RightE x := by simpa using HA.out x (List.mem_of_getElem? hx)
    have Hi64 := Lib.hid (rightE_i64 hre)
    have Hx := Lib.hid hx
    have k1 : (0 : Int) ≤ (k : Int) := by omega
    have k2 : (k : Int) < (m : Int) := by omega
    clear hx hxc hre
    go_wp2_with fail
    obtain ⟨q, hq⟩ : ∃ q, wr.heap.size = q := ⟨_, rfl⟩
    obtain ⟨W3, hW3⟩ : ∃ W, wr.alloc (.cells #[.int .i64 x.key.time, .int .i64 x.key.source, .int .i64 x.key.seq, .int .i64 x.to, .int .i64 x.value] 28) = W := ⟨_, rfl⟩
    have hb3 := Lib.hid (show W3.heap[q]? = some (.cells #[.int .i64 x.key.time, .int .i64 x.key.source, .int .i64 x.key.seq, .int .i64 x.to, .int .i64 x.value] 28 (0, 0)) by rw [← hW3, ← hq]; exact World.alloc_heap_new wr _)
    have F3r := Lib.hid (show Fr0 none' wr W3 by rw [← hW3]; exact (Fr0.refl _ _).alloc _)
    have XB := Lib.hid (show EAt W3 q 0 x by refine ⟨?_, ?_, ?_, ?_, ?_⟩ <;> rw [cells_in hb3.out] <;> rfl)
    rw [hW3]
    try rw [hq]
    clear hW3 hq x0 x1 x2 x3 x4
    have H3 := Lib.hid (H.out.fr0 (hfr.out.trans F3r.out) (fun _ _ h => h))
    have C3 := Lib.hid H3.out.c3
    obtain ⟨pa, pb, hlook⟩ := H3.out.looks Hi64.out.1 Hi64.out.2
    obtain ⟨th, hth⟩ : ∃ th, (X.map Prod.fst).any (fun y => y.name == x.name) = th := ⟨_, rfl⟩
    rw [hth] at hlook
    have HLook := Lib.hid hlook
    have Hth := Lib.hid hth
    clear hlook hth
    refine viaT' (T := Nat → Value) (fun _ W => Fr0 none' W3 W) (fun us => [(28, us 0), (29, us 1), (30, us 2), (31, us 3), (32, us 4), (33, us 5), (34, us 6), (27, us 7), (35, us 8), (36, us 9), (10, us 10), (11, .bool th)]) (fun us W hF => ?_) (fun hT => ?_)
    ·simp only [List.foldl, Act.put, List.setIfInBounds_toArray, List.set_cons_zero, List.set_cons_succ]
     have F3 := Lib.hid ((hfr.out.trans F3r.out).trans hF)
     obtain ⟨kl, hkl⟩ := name_key_is Hi64.out.1 Hi64.out.2
     have Hkl := Lib.hid hkl
     have HM := Lib.hid (fun (W' : World) (hf : Fr0 none' W W') => (hmet.out.fr0 ((F3r.out.trans hF).trans hf) id))
     obtain ⟨ci, hci⟩ : ∃ ci, (c x.name).getD 0 = ci := ⟨_, rfl⟩
     obtain ⟨be, hbe⟩ : ∃ be, (c x.name).isSome = be := ⟨_, rfl⟩
     have HL2 := Lib.hid (fun (W' : World) (hf : Fr0 none' W W') => ((HM.out W' hf).look name_law Tryz.underlying141 (Tryz.zeroValue3 W') hkl).1)
     rw [hci, hbe] at HL2
     have Hbe := Lib.hid (show (l.take k).any (fun y => y.name == x.name) = be by rw [← hcs.out, hbe])
     obtain ⟨x0, x1, x2, x3, x4⟩ := XB.out.later hF
     simp only [Nat.zero_add] at x0 x1 x2 x3 x4
     have XB := Lib.hid (XB.out.later hF)
     have hdup := Lib.hid (show dupB (X.map Prod.fst) l k = (th || be) by
      unfold dupB
      rw [Hx.out]
      simp only [List.any_append]
      rw [Hth.out, Hbe.out])
     clear hkl hci hbe hF
     go_wp2_with fail
     refine (of_any x _).mono ?_
     rintro e w5 ⟨rfl, hf5⟩
     have hl2 := HL2.out w5 hf5
     obtain ⟨x0, x1, x2, x3, x4⟩ := XB.out.later hf5
     simp only [Nat.zero_add] at x0 x1 x2 x3 x4
     have XB := Lib.hid (XB.out.later hf5)
     have hM5 := Lib.hid (HM.out w5 hf5)
     have F5 := Lib.hid (F3.out.trans hf5)
     clear hf5 HM HL2
     cases th
     ·cases be
      ·go_wp2_with fail
       refine (of_any x _).mono ?_
       rintro e w6 ⟨rfl, hf6⟩
       obtain ⟨w7, hrun, hm7, hf7⟩ := (hM5.out.fr0 hf6 id).put name_law Tryz.underlying141 (by unfold maxLen; omega) Hkl.out (k : Int)
       have hm7 := Lib.hid hm7
       have F7 := Lib.hid ((F5.out.trans hf6).trans' hf7 (fun i hi e => by have := HB.out; omega))
       clear hf6 hf7 x0 x1 x2 x3 x4 hl2
       go_wp2_with fail
       clear hrun
       go_roundw
       case rel =>
        refine ⟨k + 1, _, by omega, by go_num, fun i hi => ?_, hm7, fun nm => ?_, F7⟩
        ·by_cases e : i = k
         ·rw [e, hdup.out]; rfl
         ·exact hpre.out i (by omega)
        ·rw [List.take_add_one, Hx.out]
         simp only [Option.toList_some, List.any_append, List.any_cons, List.any_nil, Bool.or_false]
         rw [← hcs.out nm]
         by_cases e : nm = x.name
         ·rw [if_pos e]; simp [e]
         ·rw [if_neg e]
          have : (x.name == nm) = false := by simpa using fun h => e h.symm
          rw [this, Bool.or_false]
       case measure => simp [Go.RowKit.intOf]; omega
      ·skip
       have hres := Lib.hid (show ((k : Int), (101 : Int)) = R by
        rw [← HR.out]
        unfold chkE
        rw [HIe.out, if_neg (by omega), dupI_at (by rw [Hm.out]; exact hlt) hpre.out (by rw [hdup.out]; simp), if_pos (by omega)])
       go_wp2_with fail
       go_ret2
       exact ⟨by rw [← hres.out]; rfl, F5.out⟩
     ·skip
      have hres := Lib.hid (show ((k : Int), (101 : Int)) = R by
       rw [← HR.out]
       unfold chkE
       rw [HIe.out, if_neg (by omega), dupI_at (by rw [Hm.out]; exact hlt) hpre.out (by rw [hdup.out]; simp), if_pos (by omega)])
      go_wp2_with fail
      go_ret2
      exact ⟨by rw [← hres.out]; rfl, F5.out⟩
    ·simp only [List.foldl, Act.put, List.setIfInBounds_toArray, List.set_cons_zero, List.set_cons_succ] at hT
     have HT := Lib.hid hT
     clear hT
     refine wp_region_held_drew (S := fun W' => Fr0 none' W3 W') (by kernel_rfl) ((Fr0.refl none' W3).drew) (fun hHeld => ?_)
     refine tkn (i := 0) (v := .pointer (some ⟨qb, 0, none⟩)) (fun W' hSW => ?_) ?_
     ·(try dsimp only at hSW)
      first | (go_simp; done) | (have s0 := hSW.later C3.out; obtain ⟨s1, s2, s3, s4, s5⟩ := XB.out.later hSW; (try simp only [Nat.zero_add] at s1 s2 s3 s4 s5); (try simp only [evV]); go_simp; done) | (have hl := HLook.out W' hSW; go_simp; done) | exact rfl | (go_simp; rfl)
     try simp only [pUt, pUn, sEt, sEz, sEs]
     refine tkn (i := 1) (v := .pointer (some ⟨qb, 0, none⟩)) (fun W' hSW => ?_) ?_
     ·(try dsimp only at hSW)
      first | (go_simp; done) | (have s0 := hSW.later C3.out; obtain ⟨s1, s2, s3, s4, s5⟩ := XB.out.later hSW; (try simp only [Nat.zero_add] at s1 s2 s3 s4 s5); (try simp only [evV]); go_simp; done) | (have hl := HLook.out W' hSW; go_simp; done) | exact rfl | (go_simp; rfl)
     try simp only [pUt, pUn, sEt, sEz, sEs]
     refine tkn (i := 2) (v := .pointer (some ⟨qb, 3, none⟩)) (fun W' hSW => ?_) ?_
     ·(try dsimp only at hSW)
      first | (go_simp; done) | (have s0 := hSW.later C3.out; obtain ⟨s1, s2, s3, s4, s5⟩ := XB.out.later hSW; (try simp only [Nat.zero_add] at s1 s2 s3 s4 s5); (try simp only [evV]); go_simp; done) | (have hl := HLook.out W' hSW; go_simp; done) | exact rfl | (go_simp; rfl)
     try simp only [pUt, pUn, sEt, sEz, sEs]
     refine tkn (i := 3) (v := .map (some mb)) (fun W' hSW => ?_) ?_
     ·(try dsimp only at hSW)
      first | (go_simp; done) | (have s0 := hSW.later C3.out; obtain ⟨s1, s2, s3, s4, s5⟩ := XB.out.later hSW; (try simp only [Nat.zero_add] at s1 s2 s3 s4 s5); (try simp only [evV]); go_simp; done) | (have hl := HLook.out W' hSW; go_simp; done) | exact rfl | (go_simp; rfl)
     try simp only [pUt, pUn, sEt, sEz, sEs]
     refine tkn (i := 4) (v := evV x) (fun W' hSW => ?_) ?_
     ·(try dsimp only at hSW)
      first | (go_simp; done) | (have s0 := hSW.later C3.out; obtain ⟨s1, s2, s3, s4, s5⟩ := XB.out.later hSW; (try simp only [Nat.zero_add] at s1 s2 s3 s4 s5); (try simp only [evV]); go_simp; done) | (have hl := HLook.out W' hSW; go_simp; done) | exact rfl | (go_simp; rfl)
     try simp only [pUt, pUn, sEt, sEz, sEs]
     refine wpAnyH_ready (rs := [5, 10]) (by kernel_rfl) (by simp) (AllReadyH.cons (op_at rfl) (fun K hK => ?_) (AllReadyH.cons (op_at rfl) (fun K hK => ?_) AllReadyH.nil))
     ·rw [if_pos (by kernel_rfl)]
      go_simp
      refine (of_any x _).mono ?_
      rintro e w5 ⟨rfl, hf5⟩
      have G := Lib.hid (hHeld.trans hf5)
      refine hK.out _ _ G.out (fun hHeld => ?_)
      clear hK K
      try simp only [pUt, pUn, sEt, sEz, sEs]
      refine tkn (i := 6) (v := .tuple #[.agg #[.int .i64 pa, .int .i64 pb], .bool th]) (fun W' hSW => ?_) ?_
      ·(try dsimp only at hSW)
       first | (go_simp; done) | (have s0 := hSW.later C3.out; obtain ⟨s1, s2, s3, s4, s5⟩ := XB.out.later hSW; (try simp only [Nat.zero_add] at s1 s2 s3 s4 s5); (try simp only [evV]); go_simp; done) | (have hl := HLook.out W' hSW; go_simp; done) | exact rfl | (go_simp; rfl)
      try simp only [pUt, pUn, sEt, sEz, sEs]
      refine tkn (i := 7) (v := .tuple #[.agg #[.int .i64 pa, .int .i64 pb], .bool th]) (fun W' hSW => ?_) ?_
      ·(try dsimp only at hSW)
       first | (go_simp; done) | (have s0 := hSW.later C3.out; obtain ⟨s1, s2, s3, s4, s5⟩ := XB.out.later hSW; (try simp only [Nat.zero_add] at s1 s2 s3 s4 s5); (try simp only [evV]); go_simp; done) | (have hl := HLook.out W' hSW; go_simp; done) | exact rfl | (go_simp; rfl)
      try simp only [pUt, pUn, sEt, sEz, sEs]
      refine tkn (i := 8) (v := .agg #[.int .i64 pa, .int .i64 pb]) (fun W' hSW => ?_) ?_
      ·(try dsimp only at hSW)
       first | (go_simp; done) | (have s0 := hSW.later C3.out; obtain ⟨s1, s2, s3, s4, s5⟩ := XB.out.later hSW; (try simp only [Nat.zero_add] at s1 s2 s3 s4 s5); (try simp only [evV]); go_simp; done) | (have hl := HLook.out W' hSW; go_simp; done) | exact rfl | (go_simp; rfl)
      try simp only [pUt, pUn, sEt, sEz, sEs]
      refine tkn (i := 9) (v := .bool th) (fun W' hSW => ?_) ?_
      ·(try dsimp only at hSW)
       first | (go_simp; done) | (have s0 := hSW.later C3.out; obtain ⟨s1, s2, s3, s4, s5⟩ := XB.out.later hSW; (try simp only [Nat.zero_add] at s1 s2 s3 s4 s5); (try simp only [evV]); go_simp; done) | (have hl := HLook.out W' hSW; go_simp; done) | exact rfl | (go_simp; rfl)
      try simp only [pUt, pUn, sEt, sEz, sEs]
      refine take_call (i := 10) rfl (by kernel_rfl) (by kernel_rfl) (fun K hK => ?_)
      go_simp
      obtain ⟨qa, hqa⟩ : ∃ qa, w5.heap.size = qa := ⟨_, rfl⟩
      obtain ⟨WA, hWA⟩ : ∃ W, (w5.alloc (.cells #[.int .i64 0, .int .i64 0] 112)) = W := ⟨_, rfl⟩
      have hbA := Lib.hid (show WA.heap[qa]? = some (.cells #[.int .i64 0, .int .i64 0] 112 (0, 0)) by rw [← hWA, ← hqa]; exact World.alloc_heap_new w5 _)
      have HQa := Lib.hid (show W3.heap.size ≤ qa by rw [← hqa]; exact hHeld.size)
      have G := Lib.hid (show Fr0 none' W3 WA by rw [← hWA]; exact (hHeld.alloc _))
      rw [hWA]
      try rw [hqa]
      clear hWA hqa
      refine hK.out _ _ G.out (fun hHeld => ?_)
      clear hK K
      try simp only [pUt, pUn, sEt, sEz, sEs]
      refine take_call (i := 11) rfl (by kernel_rfl) (by kernel_rfl) (fun K hK => ?_)
      have r0 := cells_in hbA.out 0
      have r1 := cells_in hbA.out 1
      simp at r0 r1
      have t0 := thaw_in hbA.out 0
      have t1 := thaw_in hbA.out 1
      go_simp
      clear r0 r1 t0 t1
      have G := Lib.hid ((hHeld.setCell (b := qa) (o := 0) (fun h => absurd h (Nat.not_lt.2 HQa.out)) (.int .i64 pa)).setCell (b := qa) (o := 1) (fun h => absurd h (Nat.not_lt.2 HQa.out)) (.int .i64 pb))
      refine hK.out _ _ G.out (fun hHeld => ?_)
      clear hK K
      try simp only [pUt, pUn, sEt, sEz, sEs]
      refine take_call (i := 12) rfl (by kernel_rfl) (by kernel_rfl) (fun K hK => ?_)
      go_simp
      have G := Lib.hid hHeld
      refine hK.out _ _ G.out (fun hHeld => ?_)
      clear hK K
      try simp only [pUt, pUn, sEt, sEz, sEs]
      refine wpAnyH_done (by kernel_rfl) ?_ _
      exact HT.out (fun n => ([.pointer (some ⟨qb, 0, none⟩), .pointer (some ⟨qb, 0, none⟩), .pointer (some ⟨qb, 3, none⟩), .map (some mb), evV x, nameV x.name, .tuple #[.agg #[.int .i64 pa, .int .i64 pb], .bool th], .tuple #[.agg #[.int .i64 pa, .int .i64 pb], .bool th], .agg #[.int .i64 pa, .int .i64 pb], .bool th, .pointer (some ⟨qa, 0, none⟩)] : List Value).getD n undef) _ hHeld
     ·rw [if_pos (by kernel_rfl)]
      go_simp
      clear hHeld
      have hHeld : Fr0 none' W3 W3 := Fr0.refl _ _
      obtain ⟨qa, hqa⟩ : ∃ qa, W3.heap.size = qa := ⟨_, rfl⟩
      obtain ⟨WA, hWA⟩ : ∃ W, (W3.alloc (.cells #[.int .i64 0, .int .i64 0] 112)).drew = W := ⟨_, rfl⟩
      have hbA := Lib.hid (show WA.heap[qa]? = some (.cells #[.int .i64 0, .int .i64 0] 112 (0, 0)) by rw [← hWA, ← hqa]; exact World.alloc_heap_new W3 _)
      have HQa := Lib.hid (show W3.heap.size ≤ qa by rw [← hqa]; exact hHeld.size)
      have G := Lib.hid (show Fr0 none' W3 WA by rw [← hWA]; exact (hHeld.alloc _).drew)
      rw [hWA]
      try rw [hqa]
      clear hWA hqa
      refine hK.out _ _ G.out (fun hHeld => ?_)
      clear hK K
      try simp only [pUt, pUn, sEt, sEz, sEs]
      refine take_call (i := 5) rfl (by kernel_rfl) (by kernel_rfl) (fun K hK => ?_)
      go_simp
      refine (of_any x _).mono ?_
      rintro e w5 ⟨rfl, hf5⟩
      have hbA := Lib.hid ((hf5.block qa (Array.getElem?_eq_some_iff.1 hbA.out).1 id).trans hbA.out)
      have G := Lib.hid (hHeld.trans hf5)
      refine hK.out _ _ G.out (fun hHeld => ?_)
      clear hK K
      try simp only [pUt, pUn, sEt, sEz, sEs]
      refine tkn (i := 6) (v := .tuple #[.agg #[.int .i64 pa, .int .i64 pb], .bool th]) (fun W' hSW => ?_) ?_
      ·(try dsimp only at hSW)
       first | (go_simp; done) | (have s0 := hSW.later C3.out; obtain ⟨s1, s2, s3, s4, s5⟩ := XB.out.later hSW; (try simp only [Nat.zero_add] at s1 s2 s3 s4 s5); (try simp only [evV]); go_simp; done) | (have hl := HLook.out W' hSW; go_simp; done) | exact rfl | (go_simp; rfl)
      try simp only [pUt, pUn, sEt, sEz, sEs]
      refine tkn (i := 7) (v := .tuple #[.agg #[.int .i64 pa, .int .i64 pb], .bool th]) (fun W' hSW => ?_) ?_
      ·(try dsimp only at hSW)
       first | (go_simp; done) | (have s0 := hSW.later C3.out; obtain ⟨s1, s2, s3, s4, s5⟩ := XB.out.later hSW; (try simp only [Nat.zero_add] at s1 s2 s3 s4 s5); (try simp only [evV]); go_simp; done) | (have hl := HLook.out W' hSW; go_simp; done) | exact rfl | (go_simp; rfl)
      try simp only [pUt, pUn, sEt, sEz, sEs]
      refine tkn (i := 8) (v := .agg #[.int .i64 pa, .int .i64 pb]) (fun W' hSW => ?_) ?_
      ·(try dsimp only at hSW)
       first | (go_simp; done) | (have s0 := hSW.later C3.out; obtain ⟨s1, s2, s3, s4, s5⟩ := XB.out.later hSW; (try simp only [Nat.zero_add] at s1 s2 s3 s4 s5); (try simp only [evV]); go_simp; done) | (have hl := HLook.out W' hSW; go_simp; done) | exact rfl | (go_simp; rfl)
      try simp only [pUt, pUn, sEt, sEz, sEs]
      refine tkn (i := 9) (v := .bool th) (fun W' hSW => ?_) ?_
      ·(try dsimp only at hSW)
       first | (go_simp; done) | (have s0 := hSW.later C3.out; obtain ⟨s1, s2, s3, s4, s5⟩ := XB.out.later hSW; (try simp only [Nat.zero_add] at s1 s2 s3 s4 s5); (try simp only [evV]); go_simp; done) | (have hl := HLook.out W' hSW; go_simp; done) | exact rfl | (go_simp; rfl)
      try simp only [pUt, pUn, sEt, sEz, sEs]
      refine take_call (i := 11) rfl (by kernel_rfl) (by kernel_rfl) (fun K hK => ?_)
      have r0 := cells_in hbA.out 0
      have r1 := cells_in hbA.out 1
      simp at r0 r1
      have t0 := thaw_in hbA.out 0
      have t1 := thaw_in hbA.out 1
      go_simp
      clear r0 r1 t0 t1
      have G := Lib.hid ((hHeld.setCell (b := qa) (o := 0) (fun h => absurd h (Nat.not_lt.2 HQa.out)) (.int .i64 pa)).setCell (b := qa) (o := 1) (fun h => absurd h (Nat.not_lt.2 HQa.out)) (.int .i64 pb))
      refine hK.out _ _ G.out (fun hHeld => ?_)
      clear hK K
      try simp only [pUt, pUn, sEt, sEz, sEs]
      refine take_call (i := 12) rfl (by kernel_rfl) (by kernel_rfl) (fun K hK => ?_)
      go_simp
      have G := Lib.hid hHeld
      refine hK.out _ _ G.out (fun hHeld => ?_)
      clear hK K
      try simp only [pUt, pUn, sEt, sEz, sEs]
      refine wpAnyH_done (by kernel_rfl) ?_ _
      exact HT.out (fun n => ([.pointer (some ⟨qb, 0, none⟩), .pointer (some ⟨qb, 0, none⟩), .pointer (some ⟨qb, 3, none⟩), .map (some mb), evV x, nameV x.name, .tuple #[.agg #[.int .i64 pa, .int .i64 pb], .bool th], .tuple #[.agg #[.int .i64 pa, .int .i64 pb], .bool th], .agg #[.int .i64 pa, .int .i64 pb], .bool th, .pointer (some ⟨qa, 0, none⟩)] : List Value).getD n undef) _ hHeld
   ·have hkm : k = m := by omega
    have hres := Lib.hid (show ((-1 : Int), (0 : Int)) = R by
     rw [← HR.out]
     unfold chkE
     rw [HIe.out, if_neg (by omega), dupI_none (fun i hi => hpre.out i (by rw [Hm.out] at hi; omega)), if_neg (by omega)])
    go_wp2
    go_ret2
    exact ⟨by rw [← hres.out]; rfl, hfr.out⟩
 ·rw [hi] at HI
  have hres := Lib.hid (show ((k : Int), (100 : Int)) = R by rw [← HR.out]; unfold chkE; rw [if_pos (by rw [hi]; omega), hi])
  have d1 : decide ((k : Int) ≥ 0) = true := decide_eq_true (by omega)
  have d2 : decide ((0 : Int) ≤ (k : Int)) = true := decide_eq_true (by omega)
  clear hi hkl
  go_enter Tryz.func61, Tryz.ntmps61
  go_wp2_with fail
  refine HI.out.mono ?_
  rintro e w1 ⟨rfl, hf1⟩
  go_wp2_with fail
  go_ret2
  exact ⟨by rw [← hres.out]; rfl, hf1⟩
end Go.Proofs.YtmcgipilopfgoaaGreat

/-
  The laws' helpers: at, made, events.
-/
namespace Go.Proofs.YtmcgipilopfgoaaGreat
open Go Go.RowKit Go.ChangeMaps
attribute [local go_sem ↓] Go.wp_at_zero Go.wp_at_succ
attribute [local go_sem] Oper.semAt_some wide_fn wide_depth wide_fnR wide_depthR

/-- An event in small numbers. -/
structure Sme where
 t : Int
 s : Int
 q : Int
 o : Int
deriving Inhabited
def Sme.ok (x : Sme) : Prop := (0 ≤ x.t ∧ x.t < 256) ∧ (0 ≤ x.s ∧ x.s < 256) ∧ (0 ≤ x.q ∧ x.q < 256) ∧ (0 ≤ x.o ∧ x.o < 256)
def smeV (x : Sme) : Value := .agg #[.int .u8 x.t, .int .u8 x.s, .int .u8 x.q, .int .u8 x.o]
/-- A slice of them. -/
def SmesAt (w : World) (v : Value) (xs : List Sme) : Prop := ∃ a cap, v = .slice a xs.length cap ∧ xs.length ≤ cap ∧ ∀ j x, xs[j]? = some x → x.ok ∧ ∃ g o, a = some ⟨g, o, none⟩ ∧ w.cell? ⟨g, o + j * 4, none⟩ = some (.int .u8 x.t) ∧ w.cell? ⟨g, o + j * 4 + 1, none⟩ = some (.int .u8 x.s) ∧ w.cell? ⟨g, o + j * 4 + 2, none⟩ = some (.int .u8 x.q) ∧ w.cell? ⟨g, o + j * 4 + 3, none⟩ = some (.int .u8 x.o)
theorem SmesAt.later {w w' : World} {v : Value} {xs : List Sme} (h : SmesAt w v xs) (hf : Fr0 none' w w') : SmesAt w' v xs := by
 obtain ⟨a, cap, h1, h2, h3⟩ := h
 refine ⟨a, cap, h1, h2, fun j x hj => ?_⟩
 obtain ⟨h4, g, o, h5, c0, c1, c2, c3⟩ := h3 j x hj
 exact ⟨h4, g, o, h5, hf.later c0, hf.later c1, hf.later c2, hf.later c3⟩
set_option maxRecDepth 100000 in
set_option maxHeartbeats 1000000 in
theorem at_any (a b c : Int) (w : World) : Calls Tryz.prog 8 #[.int .i64 a, .int .i64 b, .int .i64 c] w fun e w' => e = .returned (evV ⟨⟨a, b, c⟩, 1, 0⟩) ∧ Fr0 none' w w' := by
 unfold evV
 go_enter Tryz.func8, Tryz.ntmps8
 go_wp2_with fail
 obtain ⟨V, hV⟩ : ∃ V, (w.alloc (.cells #[.int .i64 a, .int .i64 b, .int .i64 c, .int .i64 1, .int .i64 0] 28)) = V := ⟨_, rfl⟩
 have hf : Fr0 none' w V := by rw [← hV]; exact (Fr0.refl _ _).alloc _
 have hb : V.heap[w.heap.size]? = some (.cells #[.int .i64 a, .int .i64 b, .int .i64 c, .int .i64 1, .int .i64 0] 28 (0, 0)) := by
  rw [← hV]
  exact World.alloc_heap_new w _
 rw [hV]
 have y0 := cells_in hb 0
 have y1 := cells_in hb 1
 have y2 := cells_in hb 2
 have y3 := cells_in hb 3
 have y4 := cells_in hb 4
 simp at y0 y1 y2 y3 y4
 exact bodyPost_ret (v := .agg #[.int .i64 a, .int .i64 b, .int .i64 c, .int .i64 1, .int .i64 0]) (by simp [results, Tryz.results8, go_sem, y0, y1, y2, y3, y4]) rfl ⟨rfl, hf⟩
end Go.Proofs.YtmcgipilopfgoaaGreat

/-
  A slice of small numbers among the arguments; the row's post, the arguments read from below.
-/
namespace Go.Proofs.YtmcgipilopfgoaaGreat
open Go.ChangeShapes Go.WideShapes Go.ChangeAt Go.RowKit Go.Deep Go.Joins

theorem post_below2 {H : Type} {enc : TypeId × Value → H} {P : Program} {f : Func} {s : ChangeSpec} {apart fresh handsOn : Bool} {W W' : World} {args : Array Value} {v : Value} {ds gs : List (DataW H)} {before pa pv : List MemPlace}
  (hW : DataW.Whole enc P f.params.toList s.vars apart W args.toList ds gs before)
  (hres : ∀ (b : Nat) (sp : Nat → Bool) (hd : Bool), DataW.TrodAll enc P W' b sp hd f.resultTypes.toList (v.resultList f.resultTypes.size) (s.fn H (ds ++ gs)).results [])
  (hargs : DataW.TrodAll enc P W' 0 (fun b => decide (b < W.heap.size)) true f.params.toList args.toList (s.fn H (ds ++ gs)).args pa)
  (hvars : ∀ sp : Nat → Bool, (∀ p ∈ before, sp p.block = true) → DataW.TrodVars enc P W' sp s.vars (s.fn H (ds ++ gs)).vars pv)
  (hb : Below W.heap.size W W') :
  s.post enc P f apart fresh handsOn false W args v W' := by
 have hold : ∀ p ∈ before, (fun b => decide (b < W.heap.size)) p.block = true := fun p hp => by simpa using hW.lt p hp
 exact ⟨ds, gs, before, [], pa, pv, hW, hres _ _ _, hargs, hvars _ hold, hb.frame _, fun h => by cases h⟩
theorem own_knob : ownKnob Tryz.prog.godebug = none := by kernel_rfl

theorem list_of {α : Type} {P : Nat → α → Prop} : ∀ n, (∀ i, i < n → ∃ x, P i x) → ∃ xs : List α, xs.length = n ∧ ∀ j x, xs[j]? = some x → P j x
 | 0, _ => ⟨[], rfl, fun j x h => by simp at h⟩
 | n + 1, h => by
  obtain ⟨xs, hl, hx⟩ := list_of n (fun i hi => h i (by omega))
  obtain ⟨x, hp⟩ := h n (by omega)
  refine ⟨xs ++ [x], by simp [hl], fun j y hj => ?_⟩
  rcases Nat.lt_or_ge j xs.length with hjl | hjl
  ·rw [List.getElem?_append_left hjl] at hj; exact hx j y hj
  ·rw [List.getElem?_append_right hjl] at hj
   have : j - xs.length = 0 := by
    rcases Nat.eq_zero_or_pos (j - xs.length) with h0 | h0
    ·exact h0
    ·rw [List.getElem?_eq_none (by simp; omega)] at hj; cases hj
   rw [this] at hj
   simp at hj
   subst hj
   rw [show j = n by omega]; exact hp
theorem small_fields {H : Type} {enc : TypeId × Value → H} {w : World} {n : Nat} {v : Value} {y : DataW H × List MemPlace} (h : DataW.trod enc Tryz.prog w 0 (fun _ => true) true n 5 [v] = some y) : ∃ a, v = .int .u8 a ∧ 0 ≤ a ∧ a < 256 := by
 obtain ⟨a, h1, _, hw⟩ := DataW.trod_int Tryz.underlying5 h
 injection h1 with h1 _
 have := bounds_u8 hw
 exact ⟨a, h1, this.1, by omega⟩

set_option maxRecDepth 100000 in
/-- A slice of small numbers, opened. -/
theorem smalls_arg {base : Nat} {H : Type} {enc : TypeId × Value → H} {W : World} {v : Value} {d : DataW H} {ps : List MemPlace}
  (hval : Value.okWide Tryz.prog W .any base 34 v) (h : DataW.Trod enc Tryz.prog W 0 (fun _ => true) true 34 v d ps) : ∃ xs, SmesAt W v xs := by
 obtain ⟨A, n, cap, rfl⟩ := okWide_slice Tryz.underlying34 hval
 obtain ⟨fuel, hf⟩ := h
 rcases open_slice Tryz.underlying34 hf with ⟨hcs, _⟩ | ⟨a, len, cap', m, _, D, Pl, hcs, _, hl, hm, hz, _, hi⟩
 ·simp [Value.cells] at hcs
  obtain ⟨rfl, rfl, rfl⟩ := hcs
  exact ⟨[], none, 0, rfl, Nat.le_refl _, fun j x hj => by simp at hj⟩
 ·simp [Value.cells] at hcs
  obtain ⟨rfl, rfl, rfl⟩ := hcs
  have hmn : n ≤ m := by rw [hz]; split <;> omega
  have key : ∀ i, i < n → ∃ x : Sme, x.ok ∧ ∃ g o, a = ⟨g, o, none⟩ ∧ W.cell? ⟨g, o + i * 4, none⟩ = some (.int .u8 x.t) ∧ W.cell? ⟨g, o + i * 4 + 1, none⟩ = some (.int .u8 x.s) ∧ W.cell? ⟨g, o + i * 4 + 2, none⟩ = some (.int .u8 x.q) ∧ W.cell? ⟨g, o + i * 4 + 3, none⟩ = some (.int .u8 x.o) := fun i hin => by
   obtain ⟨cs, hc, ht⟩ := hi i (by omega)
   rw [show Tryz.prog.cellsOf 80 = 4 by kernel_rfl] at hc
   obtain ⟨ys, k, _, _, _, hyl, hfl⟩ := DataW.trod_struct Tryz.underlying80 ht
   obtain ⟨_, hcl, hat⟩ := World.cells?_some hc
   have hone : Tryz.prog.cellsOf 5 = 1 := by kernel_rfl
   match cs, hcl with
   | [v0, v1, v2, v3], _ =>
   have c0 := hat 0 (by omega)
   have c1 := hat 1 (by omega)
   have c2 := hat 2 (by omega)
   have c3 := hat 3 (by omega)
   have f0 : DataW.trod enc Tryz.prog W 0 (fun _ => true) true k 5 (([v0, v1, v2, v3].drop 0).take (Tryz.prog.cellsOf 5)) = ys[0]? := hfl 0 _ rfl
   have f1 : DataW.trod enc Tryz.prog W 0 (fun _ => true) true k 5 (([v0, v1, v2, v3].drop 1).take (Tryz.prog.cellsOf 5)) = ys[1]? := hfl 1 _ rfl
   have f2 : DataW.trod enc Tryz.prog W 0 (fun _ => true) true k 5 (([v0, v1, v2, v3].drop 2).take (Tryz.prog.cellsOf 5)) = ys[2]? := hfl 2 _ rfl
   have f3 : DataW.trod enc Tryz.prog W 0 (fun _ => true) true k 5 (([v0, v1, v2, v3].drop 3).take (Tryz.prog.cellsOf 5)) = ys[3]? := hfl 3 _ rfl
   rw [hone] at f0 f1 f2 f3
   have yl : ys.length = 4 := hyl
   have t0 : DataW.trod enc Tryz.prog W 0 (fun _ => true) true k 5 [v0] = some (ys[0]'(by omega)) := f0.trans (List.getElem?_eq_getElem _)
   have t1 : DataW.trod enc Tryz.prog W 0 (fun _ => true) true k 5 [v1] = some (ys[1]'(by omega)) := f1.trans (List.getElem?_eq_getElem _)
   have t2 : DataW.trod enc Tryz.prog W 0 (fun _ => true) true k 5 [v2] = some (ys[2]'(by omega)) := f2.trans (List.getElem?_eq_getElem _)
   have t3 : DataW.trod enc Tryz.prog W 0 (fun _ => true) true k 5 [v3] = some (ys[3]'(by omega)) := f3.trans (List.getElem?_eq_getElem _)
   obtain ⟨a0, rfl, l0, m0⟩ := small_fields t0
   obtain ⟨a1, rfl, l1, m1⟩ := small_fields t1
   obtain ⟨a2, rfl, l2, m2⟩ := small_fields t2
   obtain ⟨a3, rfl, l3, m3⟩ := small_fields t3
   obtain ⟨cs', hc', _⟩ := hi 0 (by omega)
   rw [show Tryz.prog.cellsOf 80 = 4 by kernel_rfl] at hc'
   obtain ⟨_, hcl', hat'⟩ := World.cells?_some hc'
   have z0 := hat' 0 (by omega)
   rw [List.getElem?_eq_getElem (by omega)] at z0
   obtain ⟨b, off, spot⟩ := a
   have hspot : spot = none := by simpa [Addr.add] using World.cell?_spot z0
   subst hspot
   rw [Addr.add_mid, Addr.add_mid] at c0 c1 c2 c3
   refine ⟨⟨a0, a1, a2, a3⟩, ⟨⟨l0, m0⟩, ⟨l1, m1⟩, ⟨l2, m2⟩, ⟨l3, m3⟩⟩, b, off, rfl, ?_, ?_, ?_, ?_⟩
   ·exact c0
   ·exact c1
   ·exact c2
   ·exact c3
  obtain ⟨xs, hxl, hx⟩ := list_of n key
  subst hxl
  refine ⟨xs, some a, cap, rfl, by simpa using hl, fun j x hj => ?_⟩
  obtain ⟨hok, g, o, rfl, q0, q1, q2, q3⟩ := hx j x hj
  exact ⟨hok, g, o, rfl, q0, q1, q2, q3⟩

set_option maxRecDepth 100000 in
/-- Small numbers by value, opened. -/
theorem small_arg {base : Nat} {H : Type} {enc : TypeId × Value → H} {W : World} {v : Value} {d : DataW H} {ps : List MemPlace}
  (hval : Value.okWide Tryz.prog W .any base 80 v) (h : DataW.Trod enc Tryz.prog W 0 (fun _ => true) true 80 v d ps) : ∃ x : Sme, x.ok ∧ v = smeV x := by
 obtain ⟨v0, v1, v2, v3, y0, y1, y2, y3, n, rfl, _, _, t0, t1, t2, t3⟩ := open_agg4 Tryz.underlying80 (by kernel_rfl) (by kernel_rfl) hval h
 obtain ⟨a0, rfl, l0, m0⟩ := small_fields t0
 obtain ⟨a1, rfl, l1, m1⟩ := small_fields t1
 obtain ⟨a2, rfl, l2, m2⟩ := small_fields t2
 obtain ⟨a3, rfl, l3, m3⟩ := small_fields t3
 exact ⟨⟨a0, a1, a2, a3⟩, ⟨⟨l0, m0⟩, ⟨l1, m1⟩, ⟨l2, m2⟩, ⟨l3, m3⟩⟩, rfl⟩
end Go.Proofs.YtmcgipilopfgoaaGreat

/-
  The reference of layer 10: Less, Right, at, with.
-/
namespace Go.Proofs.YtmcgipilopfgoaaGreat
open Go Go.RowKit
attribute [local go_sem ↓] Go.wp_at_zero Go.wp_at_succ
attribute [local go_sem] Oper.semAt_some wide_fn wide_depth wide_fnR wide_depthR

set_option maxRecDepth 100000 in
set_option maxHeartbeats 2000000 in
theorem rRightK_any (k : Key3) (w : World) : Calls Tryz.prog 77 #[keyV k] w fun e w' => e = .returned (.bool (decide (RightK k))) ∧ Fr0 none' w w' := by
 simp only [keyV]
 go_enter Tryz.func77, Tryz.ntmps77
 go_wp2_with fail
 all_goals
  go_ret
  refine ⟨congrArg (fun b => Ending.returned (Value.bool b)) ?_, ((Fr0.refl _ _).alloc _)⟩
  first
   | exact (decide_eq_false (by unfold RightK; omega)).symm
   | exact decide_eq_decide.2 (by unfold RightK; omega)
set_option maxRecDepth 100000 in
set_option maxHeartbeats 2000000 in
theorem rLessK_any (a b : Key3) (w : World) : Calls Tryz.prog 74 #[keyV a, keyV b] w fun e w' => e = .returned (.bool (decide (cmpK a b < 0))) ∧ Fr0 none' w w' := by
 simp only [keyV]
 go_enter Tryz.func74, Tryz.ntmps74
 go_wp2_with fail
 all_goals
  go_ret
  refine ⟨congrArg (fun b => Ending.returned (Value.bool b)) (decide_eq_decide.2 ?_), (((Fr0.refl _ _).alloc _).alloc _)⟩
  rw [cmpK_lt]
  try simp only [bne_iff_ne, ne_eq, bne_eq_false_iff_eq, Bool.not_eq_true] at *
  omega
set_option maxRecDepth 100000 in
set_option maxHeartbeats 2000000 in
theorem rRightE_any (x : Ev) (w : World) : Calls Tryz.prog 57 #[evV x] w fun e w' => e = .returned (.bool (decide (RightE x))) ∧ Fr0 none' w w' := by
 have HR := Lib.hid (rRightK_any x.key)
 simp only [keyV] at HR
 unfold evV
 go_enter Tryz.func57, Tryz.ntmps57
 go_wp2_with fail
 obtain ⟨B, hB⟩ : ∃ B, w.heap.size = B := ⟨_, rfl⟩
 obtain ⟨W, hW⟩ : ∃ W, w.alloc (.cells #[.int .i64 x.key.time, .int .i64 x.key.source, .int .i64 x.key.seq, .int .i64 x.to, .int .i64 x.value] 28) = W := ⟨_, rfl⟩
 have F1 := Lib.hid (show Fr0 none' w W by rw [← hW]; exact (Fr0.refl _ _).alloc _)
 have hb : W.heap[B]? = some (.cells (cev x).toArray 28 (0, 0)) := by rw [← hW, ← hB]; exact World.alloc_heap_new w _
 rw [hW]
 try rw [hB]
 clear hW hB
 refine (HR.out _).mono ?_
 rintro e w2 ⟨rfl, hf⟩
 have hb2 := (hf.block B (Array.getElem?_eq_some_iff.1 hb).1 id).trans hb
 have F2 := Lib.hid (F1.out.trans hf)
 clear hf hb F1
 have a0 := cells_in hb2 0
 have a1 := cells_in hb2 1
 have a2 := cells_in hb2 2
 have a3 := cells_in hb2 3
 have a4 := cells_in hb2 4
 simp [cev] at a0 a1 a2 a3 a4
 clear hb2
 by_cases h1 : RightK x.key
 ·rw [decide_eq_true h1]
  go_wp2_with fail
  all_goals
   go_ret
   refine ⟨congrArg (fun b => Ending.returned (Value.bool b)) ?_, F2.out⟩
   first
    | exact (decide_eq_false (fun h => by have := h.2; omega)).symm
    | exact decide_eq_decide.2 ⟨fun h => ⟨h1, by omega, by omega⟩, fun h => by have := h.2; omega⟩
 ·rw [decide_eq_false h1]
  go_wp2_with fail
  go_ret
  exact ⟨congrArg (fun b => Ending.returned (Value.bool b)) (decide_eq_false (fun h => h1 h.1)).symm, F2.out⟩

set_option maxRecDepth 100000 in
set_option maxHeartbeats 2000000 in
theorem rat_any {w : World} {a : Option Addr} {n cap : Nat} (E : List Ev) (h : EsIn w a E) (hl : E.length = n) (hn : n ≤ 1000000) (s q : Int) :
  Calls Tryz.prog 73 #[.slice a n cap, .int .i64 s, .int .i64 q] w fun e w' => e = .returned (.int .i64 (atE (s, q) E)) ∧ w = w' := by
 obtain ⟨R, hR⟩ : ∃ R, atE (s, q) E = R := ⟨_, rfl⟩
 rw [hR]
 have HR := Lib.hid hR
 have H := Lib.hid h
 have Hl := Lib.hid hl
 clear h hl hR
 go_enter Tryz.func73, Tryz.ntmps73
 go_wp2_with fail
 go_loopw [7] (fun i wr => ∃ k : Nat, k ≤ n ∧ i = .int .i64 k ∧ Hid (∀ y ∈ E.take k, (y.name == (s, q)) = false) ∧ wr = w) (fun i _ => n - (Go.RowKit.intOf i).toNat)
 case atStart => exact ⟨0, Nat.zero_le _, rfl, by unfold Hid; simp, rfl⟩
 case round =>
  obtain ⟨k, hk, rfl, hpre, rfl⟩ := hrel
  by_cases hlt : k < n
  ·obtain ⟨x, hx⟩ : ∃ x, E[k]? = some x := ⟨_, List.getElem?_eq_getElem (by rw [Hl.out]; exact hlt)⟩
   obtain ⟨g2, o, rfl, hxc⟩ := H.out k x hx
   obtain ⟨x0, x1, x2, x3, x4⟩ := hxc
   have Hx := Lib.hid hx
   have k1 : (0 : Int) ≤ (k : Int) := by omega
   have k2 : (k : Int) < (n : Int) := by omega
   have hno : Hid ((x.name == (s, q)) = false → ∀ y ∈ E.take (k + 1), (y.name == (s, q)) = false) := fun hfx y hy => by
    rw [List.take_add_one, Hx.out, List.mem_append] at hy
    rcases hy with hy | hy
    ·exact hpre.out y hy
    ·simp at hy; subst hy; exact hfx
   have hyes : Hid ((x.name == (s, q)) = true → (k : Int) = R) := fun hfx => by
    rw [← HR.out]; exact (idxI_at hpre.out Hx.out hfx).symm
   clear hx
   by_cases h1 : x.key.source = s
   ·have e1 : (x.key.source == s) = true := by simpa using h1
    by_cases h2 : x.key.seq = q
    ·have e2 : (x.key.seq == q) = true := by simpa using h2
     have hres := Lib.hid (hyes.out (by simp [Ev.name, h1, h2]))
     clear h1 h2
     go_wp2_with fail
     go_ret
     exact ⟨congrArg (fun b => Ending.returned (Value.int .i64 b)) hres.out, rfl⟩
    ·have e2 : (x.key.seq == q) = false := by simpa using h2
     have hres := Lib.hid (hno.out (by simp [Ev.name, h1, h2]))
     clear h1 h2
     go_wp2_with fail
     go_roundw
     case rel => exact ⟨k + 1, by omega, by go_num, hres, trivial⟩
     case measure => simp [Go.RowKit.intOf]; omega
   ·have e1 : (x.key.source == s) = false := by simpa using h1
    have hres := Lib.hid (hno.out (by simp [Ev.name, h1]))
    clear h1
    go_wp2_with fail
    go_roundw
    case rel => exact ⟨k + 1, by omega, by go_num, hres, trivial⟩
    case measure => simp [Go.RowKit.intOf]; omega
  ·have hres := Lib.hid (show (-1 : Int) = R by
    rw [← HR.out]
    have := hpre.out
    rw [List.take_of_length_le (by rw [Hl.out]; omega)] at this
    exact (idxI_none this).symm)
   go_wp2
   go_ret
   exact ⟨congrArg (fun b => Ending.returned (Value.int .i64 b)) hres.out, rfl⟩

theorem own_low {w : World} {base base' : Nat} {e : TypeId} {size : Nat} {v : Value} {n : Nat} {xs : List Value} (h : w.ownsRow base e size v n xs) (hb : base' ≤ base) : w.ownsRow base' e size v n xs := by
 obtain ⟨h1, h2⟩ := h
 refine ⟨h1, ?_⟩
 rcases h2 with h2 | ⟨g, cap, cur, hv, hg, r⟩
 ·exact Or.inl h2
 ·exact Or.inr ⟨g, cap, cur, hv, Nat.le_trans hb hg, r⟩
/-- One round of putting an event among others. -/
def wStep (x : Ev) (s : Bool × List Ev) (y : Ev) : Bool × List Ev := if s.1 = false ∧ cmpK x.key y.key < 0 then (true, s.2 ++ [x] ++ [y]) else (s.1, s.2 ++ [y])
def wRun (x : Ev) (E : List Ev) : Bool × List Ev := E.foldl (wStep x) (false, [])
def withE (x : Ev) (E : List Ev) : List Ev := if (wRun x E).1 then (wRun x E).2 else (wRun x E).2 ++ [x]
theorem wRun_snoc {x y : Ev} {E : List Ev} {k : Nat} (h : E[k]? = some y) : wRun x (E.take (k + 1)) = wStep x (wRun x (E.take k)) y := by
 unfold wRun
 rw [List.take_add_one, h, List.foldl_append]
 rfl
theorem wRun_there (x : Ev) : ∀ (E out : List Ev), E.foldl (wStep x) (true, out) = (true, out ++ E)
 | [], out => by simp
 | y :: r, out => by
  rw [List.foldl_cons]
  have : wStep x (true, out) y = (true, out ++ [y]) := by unfold wStep; simp
  rw [this, wRun_there x r, List.append_assoc]
  rfl
theorem wRun_ins (x : Ev) : ∀ (E out : List Ev), (∀ y ∈ E, y.key ≠ x.key) → (if (E.foldl (wStep x) (false, out)).1 then (E.foldl (wStep x) (false, out)).2 else (E.foldl (wStep x) (false, out)).2 ++ [x]) = out ++ insE x E
 | [], out, _ => by simp [insE]
 | y :: r, out, h => by
  have hne := h y (List.mem_cons_self ..)
  have hanti := cmpK_anti x.key y.key
  have hz : cmpK y.key x.key ≠ 0 := fun e => hne ((cmpK_eq ..).1 e)
  rw [List.foldl_cons, insE]
  by_cases hlt : cmpK y.key x.key < 0
  ·have : wStep x (false, out) y = (false, out ++ [y]) := by unfold wStep; rw [if_neg]; simp; omega
   rw [this, if_pos hlt, wRun_ins x r _ (fun z hz => h z (List.mem_cons_of_mem _ hz))]
   simp
  ·have : wStep x (false, out) y = (true, out ++ [x] ++ [y]) := by unfold wStep; rw [if_pos]; simp; omega
   rw [this, if_neg hlt, wRun_there]
   simp
theorem withE_ins {x : Ev} {E : List Ev} (h : ∀ y ∈ E, y.name ≠ x.name) : withE x E = insE x E := by
 have := wRun_ins x E [] (fun y hy e => h y hy (name_key e))
 unfold withE wRun
 rw [this]
 rfl
theorem wStep_len (x : Ev) (s : Bool × List Ev) (y : Ev) : (wStep x s y).2.length ≤ s.2.length + 2 := by
 unfold wStep
 split <;> simp
theorem wRun_len (x : Ev) (E : List Ev) : (wRun x E).2.length ≤ E.length * 2 := by
 have : ∀ (E : List Ev) (s : Bool × List Ev), (E.foldl (wStep x) s).2.length ≤ s.2.length + E.length * 2 := by
  intro E
  induction E with
  | nil => intro s; simp
  | cons y r ih =>
   intro s
   have h1 := ih (wStep x s y)
   have h2 := wStep_len x s y
   rw [List.foldl_cons, List.length_cons]
   omega
 have := this E (false, [])
 unfold wRun
 simpa using this
set_option maxRecDepth 100000 in
set_option maxHeartbeats 2000000 in
theorem rwith_any {w : World} {a : Option Addr} {n cap : Nat} (E : List Ev) (h : EsIn w a E) (hl : E.length = n) (hn : n ≤ 1000) (x : Ev) :
  Calls Tryz.prog 75 #[.slice a n cap, evV x] w fun e w' => ∃ v, e = .returned v ∧ w'.ownsRow w.heap.size 28 5 v (withE x E).length (flatEv (withE x E)) ∧ Fr0 none' w w' := by
 obtain ⟨i0, hi, hz0, hz1, hz2⟩ := info_parts info_event0
 have H := Lib.hid h
 have Hl := Lib.hid hl
 clear h hl
 unfold evV
 go_enter Tryz.func75, Tryz.ntmps75
 go_wp2_with fail
 obtain ⟨B, hB⟩ : ∃ B, w.heap.size = B := ⟨_, rfl⟩
 obtain ⟨W, hW⟩ : ∃ W, w.alloc (.cells #[.int .i64 x.key.time, .int .i64 x.key.source, .int .i64 x.key.seq, .int .i64 x.to, .int .i64 x.value] 28) = W := ⟨_, rfl⟩
 have F1 := Lib.hid (show Fr0 none' w W by rw [← hW]; exact (Fr0.refl _ _).alloc _)
 have HB := Lib.hid (show W.heap[B]? = some (.cells (cev x).toArray 28 (0, 0)) by rw [← hW, ← hB]; exact World.alloc_heap_new w _)
 have Hb := Lib.hid hB
 rw [hW]
 try rw [hB]
 clear hW hB
 go_loopw [5, 6, 7] (fun v5 v6 i wr => ∃ (k : Nat) (b : Bool) (out : List Ev), k ≤ n ∧ i = .int .i64 k ∧ v6 = .bool b ∧ Hid (wRun x (E.take k) = (b, out)) ∧ Hid (wr.ownsRow (w.heap.size + 1) 28 5 v5 out.length (flatEv out)) ∧ Hid (wr.heap[B]? = some (.cells (cev x).toArray 28 (0, 0))) ∧ Hid (Fr0 none' w wr)) (fun _ _ i _ => n - (Go.RowKit.intOf i).toNat)
 case atStart => exact ⟨0, false, [], Nat.zero_le _, rfl, rfl, rfl, World.ownsRow_nil _ _ _ _, HB, F1⟩
 case round =>
  obtain ⟨k, b, out, hk, rfl, rfl, hrun, hrow, hbx, hfr⟩ := hrel
  have hol : out.length ≤ 2000 := by
   have h1 := wRun_len x (E.take k)
   rw [hrun.out, List.length_take] at h1
   simp only at h1
   omega
  obtain ⟨va, vc, rfl, _, _⟩ := EsIn.of_own hrow.out
  have a0 := cells_in hbx.out 0
  have a1 := cells_in hbx.out 1
  have a2 := cells_in hbx.out 2
  have a3 := cells_in hbx.out 3
  have a4 := cells_in hbx.out 4
  simp [cev] at a0 a1 a2 a3 a4
  by_cases hlt : k < n
  ·obtain ⟨y, hy⟩ : ∃ y, E[k]? = some y := ⟨_, List.getElem?_eq_getElem (by rw [Hl.out]; exact hlt)⟩
   obtain ⟨g2, o, rfl, hxc⟩ := H.out k y hy
   obtain ⟨x0, x1, x2, x3, x4⟩ := hxc.later hfr.out
   have k1 : (0 : Int) ≤ (k : Int) := by omega
   have k2 : (k : Int) < (n : Int) := by omega
   have hsn := wRun_snoc (x := x) hy
   rw [hrun.out] at hsn
   have HL := Lib.hid (rLessK_any x.key y.key)
   simp only [keyV] at HL
   obtain ⟨c, hc⟩ : ∃ c, decide (cmpK x.key y.key < 0) = c := ⟨_, rfl⟩
   rw [hc] at HL
   have Hsn := Lib.hid hsn
   have Hc := Lib.hid hc
   clear hy hsn hc
   have HY := Lib.hid hxc
   have HX := Lib.hid (fun (W' : World) (hf : Fr0 none' wr W') => (hf.block B (Array.getElem?_eq_some_iff.1 hbx.out).1 id).trans hbx.out)
   clear a0 a1 a2 a3 a4 x0 x1 x2 x3 x4 hxc
   cases b with
   | true =>
    have hst := Hsn.out
    rw [show wStep x (true, out) y = (true, out ++ [y]) by unfold wStep; simp] at hst
    have Hst := Lib.hid hst
    clear hst
    go_wp2_with fail
    refine wp_region_held_drew (S := fun W' => Fr0 none' wr W') (by kernel_rfl) ((Fr0.refl none' wr).drew) (fun hHeld => ?_)
    refine tkn (i := 0) (v := .bool true) (fun W' hSW => ?_) ?_
    ·first | (go_simp; done) | exact rfl | (go_simp; rfl) | (go_simp; omega)
    try simp only [pUt, pUn, sEt, sEz, sEs]
    refine tkn (i := 1) (v := .bool false) (fun W' hSW => ?_) ?_
    ·first | (go_simp; done) | exact rfl | (go_simp; rfl) | (go_simp; omega)
    try simp only [pUt, pUn, sEt, sEz, sEs]
    refine tkn (i := 2) (v := .bool false) (fun W' hSW => ?_) ?_
    ·first | (go_simp; done) | exact rfl | (go_simp; rfl) | (go_simp; omega)
    try simp only [pUt, pUn, sEt, sEz, sEs]
    refine take_off (i := 3) rfl (by kernel_rfl) (by kernel_rfl) (by kernel_rfl) (fun _ _ _ h => h) (by kernel_rfl) (by assumption) ?_
    try simp only [pUt, pUn, sEt, sEz, sEs]
    refine take_off (i := 4) rfl (by kernel_rfl) (by kernel_rfl) (by kernel_rfl) (fun _ _ _ h => h) (by kernel_rfl) (by assumption) ?_
    try simp only [pUt, pUn, sEt, sEz, sEs]
    refine take_off (i := 5) rfl (by kernel_rfl) (by kernel_rfl) (by kernel_rfl) (fun _ _ _ h => h) (by kernel_rfl) (by assumption) ?_
    try simp only [pUt, pUn, sEt, sEz, sEs]
    refine take_off (i := 6) rfl (by kernel_rfl) (by kernel_rfl) (by kernel_rfl) (fun _ _ _ h => h) (by kernel_rfl) (by assumption) ?_
    try simp only [pUt, pUn, sEt, sEz, sEs]
    refine take_off (i := 7) rfl (by kernel_rfl) (by kernel_rfl) (by kernel_rfl) (fun _ _ _ h => h) (by kernel_rfl) (by assumption) ?_
    try simp only [pUt, pUn, sEt, sEz, sEs]
    refine take_off (i := 8) rfl (by kernel_rfl) (by kernel_rfl) (by kernel_rfl) (fun _ _ _ h => h) (by kernel_rfl) (by assumption) ?_
    try simp only [pUt, pUn, sEt, sEz, sEs]
    refine take_off (i := 9) rfl (by kernel_rfl) (by kernel_rfl) (by kernel_rfl) (fun _ _ _ h => h) (by kernel_rfl) (by assumption) ?_
    try simp only [pUt, pUn, sEt, sEz, sEs]
    refine take_off (i := 10) rfl (by kernel_rfl) (by kernel_rfl) (by kernel_rfl) (fun _ _ _ h => h) (by kernel_rfl) (by assumption) ?_
    try simp only [pUt, pUn, sEt, sEz, sEs]
    refine tkn (i := 11) (v := .bool false) (fun W' hSW => ?_) ?_
    ·first | (go_simp; done) | exact rfl | (go_simp; rfl) | (go_simp; omega)
    try simp only [pUt, pUn, sEt, sEz, sEs]
    refine wpAnyH_done (by kernel_rfl) ?_ _
    have hf2 : Fr0 none' wr wr.drew := (Fr0.refl none' wr).drew
    obtain ⟨w2, hw2⟩ : ∃ w2, wr.drew = w2 := ⟨_, rfl⟩
    rw [hw2] at hf2 ⊢
    clear hw2
    have hrow := Lib.hid (ownsRow_fr0 hrow.out hf2 (fun _ _ h => h))
    have hbx := Lib.hid ((hf2.block B (Array.getElem?_eq_some_iff.1 hbx.out).1 id).trans hbx.out)
    have hfr := Lib.hid (hfr.out.trans hf2)
    clear hf2 HX
    obtain ⟨x0, x1, x2, x3, x4⟩ := HY.out.later hfr.out
    have hsrc := Src.newRow (P := Tryz.prog) (size := 5) (tx := 30) (ty := 28) w2 Tryz.underlying30 1 1 (cev y) rfl (by simp [Value.oneCell', cev])
    simp only [cev] at hsrc
    have hbase : w.heap.size + 1 ≤ (w2).heap.size := by have h1 := (Array.getElem?_eq_some_iff.1 hbx.out).1; have := Hb.out; omega
    go_wp2_with (at_builtin; refine wpList_append_k rfl _ _ 30 30 rfl (w.heap.size + 1) 28 i0 (.agg #[.int .i64 0, .int .i64 0, .int .i64 0, .int .i64 0, .int .i64 0]) 5 40 Tryz.underlying30 hi hz0 hz1 hz2 rfl (by decide) (Value.slice va out.length vc) (out.length) _ rfl (ownsRow_fr0 hrow.out ((Fr0.refl none' w2).alloc _) (fun _ _ h => h)) (.slice (some ⟨(w2).heap.size, 0, none⟩) 1 1) 1 _ rfl hsrc (by unfold maxLen; omega) (by omega) (by simp; omega) ?_; intro v9 w9 hown hgrow hdr hob; obtain ⟨g9, c9, rfl⟩ := ownsRow_k_succ hown; have Lw9 := Lib.hid hrow.out.lt; have Fw9 := Lib.hid (show Fr0 (fun i => (Value.slice va out.length vc).ownBlock = some i) w2 w9 from ((Fr0.refl _ w2).alloc _).grown hgrow (fun i hi _ => hi)); have Rw9 := Lib.hid hown; clear hown hgrow hdr hob hsrc)
    have hrow := Lib.hid (show (w9).ownsRow (w.heap.size + 1) 28 5 (.slice (some ⟨g9, 0, none⟩) (out.length + 1) c9) (out.length + 1) (flatEv (out ++ [y])) by simpa [flatEv, cev] using Rw9.out)
    have hbx := Lib.hid ((Fw9.out.block B (Array.getElem?_eq_some_iff.1 hbx.out).1 (fun h => by have := (Lw9.out B h).1; have := Hb.out; omega)).trans hbx.out)
    have hfr := Lib.hid (hfr.out.trans' Fw9.out (fun i hi h => by have := (Lw9.out i h).1; omega))
    clear x0 x1 x2 x3 x4
    go_roundw
    case rel => exact ⟨k + 1, _, _, by omega, by go_num, rfl, Hst, by simpa using hrow, hbx, hfr⟩
    case measure => simp [Go.RowKit.intOf]; omega
   | false =>
    go_wp2_with fail
    refine wp_region_held_drew (S := fun W' => Fr0 none' wr W') (by kernel_rfl) ((Fr0.refl none' wr).drew) (fun hHeld => ?_)
    refine tkn (i := 0) (v := .bool false) (fun W' hSW => ?_) ?_
    ·first | (go_simp; done) | exact rfl | (go_simp; rfl) | (go_simp; omega)
    try simp only [pUt, pUn, sEt, sEz, sEs]
    refine tkn (i := 1) (v := .bool true) (fun W' hSW => ?_) ?_
    ·first | (go_simp; done) | exact rfl | (go_simp; rfl) | (go_simp; omega)
    try simp only [pUt, pUn, sEt, sEz, sEs]
    refine tkn (i := 2) (v := .bool true) (fun W' hSW => ?_) ?_
    ·first | (go_simp; done) | exact rfl | (go_simp; rfl) | (go_simp; omega)
    try simp only [pUt, pUn, sEt, sEz, sEs]
    refine tkn (i := 3) (v := .pointer (some ⟨B, 0, none⟩)) (fun W' hSW => ?_) ?_
    ·first | (go_simp; done) | exact rfl | (go_simp; rfl) | (go_simp; omega)
    try simp only [pUt, pUn, sEt, sEz, sEs]
    refine tkn (i := 4) (v := .agg #[.int .i64 x.key.time, .int .i64 x.key.source, .int .i64 x.key.seq]) (fun W' hSW => ?_) ?_
    ·have hb := HX.out W' hSW
     have x0 := cells_in hb 0
     have x1 := cells_in hb 1
     have x2 := cells_in hb 2
     have x3 := cells_in hb 3
     have x4 := cells_in hb 4
     simp [cev] at x0 x1 x2 x3 x4
     clear hb
     first | (go_simp; done) | exact rfl | (go_simp; rfl) | (go_simp; omega)
    try simp only [pUt, pUn, sEt, sEz, sEs]
    refine tkn (i := 5) (v := .slice (some ⟨g2, o, none⟩) n cap) (fun W' hSW => ?_) ?_
    ·first | (go_simp; done) | exact rfl | (go_simp; rfl) | (go_simp; omega)
    try simp only [pUt, pUn, sEt, sEz, sEs]
    refine tkn (i := 6) (v := .int .i64 k) (fun W' hSW => ?_) ?_
    ·first | (go_simp; done) | exact rfl | (go_simp; rfl) | (go_simp; omega)
    try simp only [pUt, pUn, sEt, sEz, sEs]
    refine tkn (i := 7) (v := .pointer (some ⟨g2, o + k * 5, none⟩)) (fun W' hSW => ?_) ?_
    ·first | (go_simp; done) | exact rfl | (go_simp; rfl) | (go_simp; omega)
    try simp only [pUt, pUn, sEt, sEz, sEs]
    refine tkn (i := 8) (v := .pointer (some ⟨g2, o + k * 5, none⟩)) (fun W' hSW => ?_) ?_
    ·first | (go_simp; done) | exact rfl | (go_simp; rfl) | (go_simp; omega)
    try simp only [pUt, pUn, sEt, sEz, sEs]
    refine tkn (i := 9) (v := .agg #[.int .i64 y.key.time, .int .i64 y.key.source, .int .i64 y.key.seq]) (fun W' hSW => ?_) ?_
    ·obtain ⟨b0, b1, b2, b3, b4⟩ := HY.out.later (hfr.out.trans hSW)
     first | (go_simp; done) | exact rfl | (go_simp; rfl) | (go_simp; omega)
    try simp only [pUt, pUn, sEt, sEz, sEs]
    refine take_call (i := 10) rfl (by kernel_rfl) (by kernel_rfl) (fun K hK => ?_)
    go_simp
    refine (HL.out _).mono ?_
    rintro e w2 ⟨rfl, hf2⟩
    have hf2 : Fr0 none' wr w2 := ((Fr0.refl none' wr).drew).trans hf2
    go_wp2_with fail
    refine hK.out _ _ hf2 (fun hS => ?_)
    clear hK K
    try simp only [pUt, pUn, sEt, sEz, sEs]
    refine tkn (i := 11) (v := .bool c) (fun W' hSW => ?_) ?_
    ·first | (go_simp; done) | exact rfl | (go_simp; rfl) | (go_simp; omega)
    try simp only [pUt, pUn, sEt, sEz, sEs]
    refine wpAnyH_done (by kernel_rfl) ?_ _
    clear hHeld hS
    have hrow := Lib.hid (ownsRow_fr0 hrow.out hf2 (fun _ _ h => h))
    have hbx := Lib.hid ((hf2.block B (Array.getElem?_eq_some_iff.1 hbx.out).1 id).trans hbx.out)
    have hfr := Lib.hid (hfr.out.trans hf2)
    clear hf2 HX
    cases c with
    | true =>
     have hst := Hsn.out
     rw [show wStep x (false, out) y = (true, out ++ [x] ++ [y]) by unfold wStep; rw [if_pos ⟨rfl, of_decide_eq_true Hc.out⟩]] at hst
     have Hst := Lib.hid hst
     clear hst
     have a0 := cells_in hbx.out 0
     have a1 := cells_in hbx.out 1
     have a2 := cells_in hbx.out 2
     have a3 := cells_in hbx.out 3
     have a4 := cells_in hbx.out 4
     simp [cev] at a0 a1 a2 a3 a4
     have hsrc := Src.newRow (P := Tryz.prog) (size := 5) (tx := 30) (ty := 28) w2 Tryz.underlying30 1 1 (cev x) rfl (by simp [Value.oneCell', cev])
     simp only [cev] at hsrc
     have hbase : w.heap.size + 1 ≤ w2.heap.size := by have h1 := (Array.getElem?_eq_some_iff.1 hbx.out).1; have := Hb.out; omega
     go_wp2_with (at_builtin; first | (refine wpList_append_k rfl _ _ 30 30 rfl (w.heap.size + 1) 28 i0 (.agg #[.int .i64 0, .int .i64 0, .int .i64 0, .int .i64 0, .int .i64 0]) 5 40 Tryz.underlying30 hi hz0 hz1 hz2 rfl (by decide) (Value.slice va out.length vc) (out.length) _ rfl (ownsRow_fr0 hrow.out ((Fr0.refl none' w2).alloc _) (fun _ _ h => h)) (.slice (some ⟨(w2).heap.size, 0, none⟩) 1 1) 1 _ rfl hsrc (by unfold maxLen; omega) (by omega) (by simp; omega) ?_; intro v9 w9 hown hgrow hdr hob; obtain ⟨g9, c9, rfl⟩ := ownsRow_k_succ hown; have Lw9 := Lib.hid hrow.out.lt; have Fw9 := Lib.hid (show Fr0 (fun i => (Value.slice va out.length vc).ownBlock = some i) w2 w9 from ((Fr0.refl _ w2).alloc _).grown hgrow (fun i hi _ => hi)); have Rw9 := Lib.hid hown; clear hown hgrow hdr hob hsrc; obtain ⟨x0, x1, x2, x3, x4⟩ := HY.out.later (hfr.out.trans' Fw9.out (fun i hi h => by have := (Lw9.out i h).1; omega)); have hbase : w.heap.size + 1 ≤ w9.heap.size := Nat.le_trans hbase Fw9.out.size; have hsrc2 := Src.newRow (P := Tryz.prog) (size := 5) (tx := 30) (ty := 28) w9 Tryz.underlying30 1 1 (cev y) rfl (by simp [Value.oneCell', cev]); simp only [cev] at hsrc2) | (refine wpList_append_k rfl _ _ 30 30 rfl (w.heap.size + 1) 28 i0 (.agg #[.int .i64 0, .int .i64 0, .int .i64 0, .int .i64 0, .int .i64 0]) 5 40 Tryz.underlying30 hi hz0 hz1 hz2 rfl (by decide) (Value.slice (some ⟨g9, 0, none⟩) (out.length + 1) c9) (out.length + 1) _ rfl (ownsRow_fr0 Rw9.out ((Fr0.refl none' w9).alloc _) (fun _ _ h => h)) (.slice (some ⟨(w9).heap.size, 0, none⟩) 1 1) 1 _ rfl hsrc2 (by unfold maxLen; omega) (by omega) (by simp; omega) ?_; intro v9 w10 hown hgrow hdr hob; obtain ⟨g10, c10, rfl⟩ := ownsRow_k_succ hown; have Lw10 := Lib.hid Rw9.out.lt; have Fw10 := Lib.hid (show Fr0 (fun i => (Value.slice (some ⟨g9, 0, none⟩) (out.length + 1) c9).ownBlock = some i) w9 w10 from ((Fr0.refl _ w9).alloc _).grown hgrow (fun i hi _ => hi)); have Rw10 := Lib.hid hown; clear hown hgrow hdr hob hsrc2))
     have hrow := Lib.hid (show (w9).ownsRow (w.heap.size + 1) 28 5 (.slice (some ⟨g9, 0, none⟩) (out.length + 1) c9) (out.length + 1) (flatEv (out ++ [x])) by simpa [flatEv, cev] using Rw9.out)
     have hbx := Lib.hid ((Fw9.out.block B (Array.getElem?_eq_some_iff.1 hbx.out).1 (fun h => by have := (Lw9.out B h).1; have := Hb.out; omega)).trans hbx.out)
     have hfr := Lib.hid (hfr.out.trans' Fw9.out (fun i hi h => by have := (Lw9.out i h).1; omega))
     have hrow := Lib.hid (show (w10).ownsRow (w.heap.size + 1) 28 5 (.slice (some ⟨g10, 0, none⟩) (out.length + 1 + 1) c10) (out.length + 1 + 1) (flatEv (out ++ [x] ++ [y])) by simpa [flatEv, cev] using Rw10.out)
     have hbx := Lib.hid ((Fw10.out.block B (Array.getElem?_eq_some_iff.1 hbx.out).1 (fun h => by have := (Lw10.out B h).1; have := Hb.out; omega)).trans hbx.out)
     have hfr := Lib.hid (hfr.out.trans' Fw10.out (fun i hi h => by have := (Lw10.out i h).1; omega))
     clear a0 a1 a2 a3 a4 x0 x1 x2 x3 x4
     go_roundw
     case rel => exact ⟨k + 1, _, _, by omega, by go_num, rfl, Hst, by simpa using hrow, hbx, hfr⟩
     case measure => simp [Go.RowKit.intOf]; omega
    | false =>
     have hst := Hsn.out
     rw [show wStep x (false, out) y = (false, out ++ [y]) by unfold wStep; rw [if_neg (fun h => of_decide_eq_false Hc.out h.2)]] at hst
     have Hst := Lib.hid hst
     clear hst
     obtain ⟨x0, x1, x2, x3, x4⟩ := HY.out.later hfr.out
     have hsrc := Src.newRow (P := Tryz.prog) (size := 5) (tx := 30) (ty := 28) w2 Tryz.underlying30 1 1 (cev y) rfl (by simp [Value.oneCell', cev])
     simp only [cev] at hsrc
     have hbase : w.heap.size + 1 ≤ (w2).heap.size := by have h1 := (Array.getElem?_eq_some_iff.1 hbx.out).1; have := Hb.out; omega
     go_wp2_with (at_builtin; refine wpList_append_k rfl _ _ 30 30 rfl (w.heap.size + 1) 28 i0 (.agg #[.int .i64 0, .int .i64 0, .int .i64 0, .int .i64 0, .int .i64 0]) 5 40 Tryz.underlying30 hi hz0 hz1 hz2 rfl (by decide) (Value.slice va out.length vc) (out.length) _ rfl (ownsRow_fr0 hrow.out ((Fr0.refl none' w2).alloc _) (fun _ _ h => h)) (.slice (some ⟨(w2).heap.size, 0, none⟩) 1 1) 1 _ rfl hsrc (by unfold maxLen; omega) (by omega) (by simp; omega) ?_; intro v9 w9 hown hgrow hdr hob; obtain ⟨g9, c9, rfl⟩ := ownsRow_k_succ hown; have Lw9 := Lib.hid hrow.out.lt; have Fw9 := Lib.hid (show Fr0 (fun i => (Value.slice va out.length vc).ownBlock = some i) w2 w9 from ((Fr0.refl _ w2).alloc _).grown hgrow (fun i hi _ => hi)); have Rw9 := Lib.hid hown; clear hown hgrow hdr hob hsrc)
     have hrow := Lib.hid (show (w9).ownsRow (w.heap.size + 1) 28 5 (.slice (some ⟨g9, 0, none⟩) (out.length + 1) c9) (out.length + 1) (flatEv (out ++ [y])) by simpa [flatEv, cev] using Rw9.out)
     have hbx := Lib.hid ((Fw9.out.block B (Array.getElem?_eq_some_iff.1 hbx.out).1 (fun h => by have := (Lw9.out B h).1; have := Hb.out; omega)).trans hbx.out)
     have hfr := Lib.hid (hfr.out.trans' Fw9.out (fun i hi h => by have := (Lw9.out i h).1; omega))
     clear x0 x1 x2 x3 x4
     go_roundw
     case rel => exact ⟨k + 1, _, _, by omega, by go_num, rfl, Hst, by simpa using hrow, hbx, hfr⟩
     case measure => simp [Go.RowKit.intOf]; omega
  ·have hkn : k = n := by omega
   subst hkn
   have hrun' := hrun.out
   rw [List.take_of_length_le (by rw [Hl.out]; exact Nat.le_refl _)] at hrun'
   have hwe : withE x E = if b then out else out ++ [x] := by unfold withE; rw [hrun']
   cases b with
   | true =>
    rw [if_pos rfl] at hwe
    have hfin := Lib.hid (show wr.ownsRow w.heap.size 28 5 (.slice va out.length vc) (withE x E).length (flatEv (withE x E)) by rw [hwe]; exact own_low hrow.out (by omega))
    clear hwe hrun'
    go_wp2_with fail
    go_ret
    exact ⟨_, rfl, hfin.out, hfr.out⟩
   | false =>
    rw [if_neg (by simp)] at hwe
    have hW := Lib.hid hwe
    clear hwe hrun'
    have hsrc := Src.newRow (P := Tryz.prog) (size := 5) (tx := 30) (ty := 28) wr Tryz.underlying30 1 1 (cev x) rfl (by simp [Value.oneCell', cev])
    simp only [cev] at hsrc
    have hbase : w.heap.size + 1 ≤ (wr).heap.size := by have h1 := (Array.getElem?_eq_some_iff.1 hbx.out).1; have := Hb.out; omega
    go_wp2_with (at_builtin; refine wpList_append_k rfl _ _ 30 30 rfl (w.heap.size + 1) 28 i0 (.agg #[.int .i64 0, .int .i64 0, .int .i64 0, .int .i64 0, .int .i64 0]) 5 40 Tryz.underlying30 hi hz0 hz1 hz2 rfl (by decide) (Value.slice va out.length vc) (out.length) _ rfl (ownsRow_fr0 hrow.out ((Fr0.refl none' wr).alloc _) (fun _ _ h => h)) (.slice (some ⟨(wr).heap.size, 0, none⟩) 1 1) 1 _ rfl hsrc (by unfold maxLen; omega) (by omega) (by simp; omega) ?_; intro v9 w9 hown hgrow hdr hob; obtain ⟨g9, c9, rfl⟩ := ownsRow_k_succ hown; have Lw9 := Lib.hid hrow.out.lt; have Fw9 := Lib.hid (show Fr0 (fun i => (Value.slice va out.length vc).ownBlock = some i) wr w9 from ((Fr0.refl _ wr).alloc _).grown hgrow (fun i hi _ => hi)); have Rw9 := Lib.hid hown; clear hown hgrow hdr hob hsrc)
    have hrow := Lib.hid (show (w9).ownsRow (w.heap.size + 1) 28 5 (.slice (some ⟨g9, 0, none⟩) (out.length + 1) c9) (out.length + 1) (flatEv (out ++ [x])) by simpa [flatEv, cev] using Rw9.out)
    have hbx := Lib.hid ((Fw9.out.block B (Array.getElem?_eq_some_iff.1 hbx.out).1 (fun h => by have := (Lw9.out B h).1; have := Hb.out; omega)).trans hbx.out)
    have hfr := Lib.hid (hfr.out.trans' Fw9.out (fun i hi h => by have := (Lw9.out i h).1; omega))
    go_ret
    refine ⟨_, rfl, ?_, hfr.out⟩
    rw [hW.out, List.length_append, List.length_singleton]
    exact own_low hrow.out (by omega)
end Go.Proofs.YtmcgipilopfgoaaGreat

/-
  The reference of layer 10: Take, Find.
-/
namespace Go.Proofs.YtmcgipilopfgoaaGreat
open Go Go.RowKit
attribute [local go_sem ↓] Go.wp_at_zero Go.wp_at_succ
attribute [local go_sem] Oper.semAt_some wide_fn wide_depth wide_fnR wide_depthR

/-- A queue of the reference: its capacity, its events in a row that lies in the old one's block, or in a new one. -/
def RAt (w' : World) (a : Option Addr) (N : Nat) (c : Int) (E : List Ev) (v : Value) : Prop := ∃ a' cap, v = .agg #[.int .i64 c, .slice a' E.length cap] ∧ E.length ≤ cap ∧ EsIn w' a' E ∧ ∀ g o s, a' = some ⟨g, o, s⟩ → (∃ o' s', a = some ⟨g, o', s'⟩) ∨ (N ≤ g ∧ g < w'.heap.size)
theorem RAt.same {w w' : World} {a : Option Addr} {N cap : Nat} {c : Int} {E : List Ev} (h : EsIn w a E) (hf : Fr0 none' w w') (hc : E.length ≤ cap) : RAt w' a N c E (.agg #[.int .i64 c, .slice a E.length cap]) :=
 ⟨a, cap, rfl, hc, h.later hf, fun g o s e => .inl ⟨o, s, e⟩⟩
theorem RAt.own {w' : World} {a : Option Addr} {base N : Nat} {c : Int} {E : List Ev} {v : Value} (h : w'.ownsRow base 28 5 v E.length (flatEv E)) (hb : N ≤ base) : RAt w' a N c E (.agg #[.int .i64 c, v]) := by
 have hlt := h.lt
 have hcap : ∀ a' cap, v = .slice a' E.length cap → E.length ≤ cap := fun a' cap hv => by
  rcases h.2 with ⟨h0, h1⟩ | ⟨g, cap', cur, hv', _, _, hn, _⟩
  ·omega
  ·rw [hv] at hv'; injection hv' with _ _ h; omega
 have hown := h.2
 obtain ⟨a', cap, rfl, _, he⟩ := EsIn.of_own h
 refine ⟨a', cap, rfl, hcap a' cap rfl, he, fun g o s e => .inr ?_⟩
 rcases hown with ⟨h0, h1⟩ | ⟨g', cap', cur, hv', hg, _⟩
 ·injection h0 with h0 _ _
  rw [h0] at e; cases e
 ·injection hv' with h1 _ _
  rw [h1] at e
  injection e with e
  injection e with e1 _ _
  subst e1
  have := hlt g' (by rw [h1]; rfl)
  omega
theorem RAt.rest {w w' : World} {a : Option Addr} {N cap m : Nat} {c : Int} {E : List Ev} (h : EsIn w a E) (hl : E.length = m) (hf : Fr0 none' w w') (hc : m ≤ cap) (n : Nat) (hn : n ≤ m) : RAt w' a N c (E.drop n) (.agg #[.int .i64 c, .slice (dR cap n a) (m - n) (cap - n)]) := by
 subst hl
 refine ⟨dR cap n a, cap - n, by rw [List.length_drop], by rw [List.length_drop]; omega, (h.later hf).restR hc n, fun g o s e => .inl ?_⟩
 unfold dR at e
 split at e
 ·exact ⟨o, s, e⟩
 ·cases a with
  | none => cases e
  | some A =>
   rw [Option.map_some] at e
   injection e with e
   have hb : (A.add (n * 5)).block = A.block := by unfold Addr.add; split <;> rfl
   rw [e] at hb
   obtain ⟨g', o', s'⟩ := A
   simp only at hb
   subst hb
   exact ⟨o', s', rfl⟩
set_option maxRecDepth 100000 in
set_option maxHeartbeats 2000000 in
theorem rTake_nil {w : World} {a : Option Addr} {cap : Nat} (c : Int) :
  Calls Tryz.prog 48 #[.agg #[.int .i64 c, .slice a 0 cap]] w fun e w' => e = .returned (.tuple #[.agg #[.int .i64 c, .slice a 0 cap], evV ⟨⟨0, 0, 0⟩, 0, 0⟩, .int .i64 6]) ∧ Fr0 none' w w' := by
 obtain ⟨m, hm⟩ : ∃ m, 0 = m := ⟨_, rfl⟩
 unfold evV
 rw [hm]
 have d1 : (((m : Nat) : Int) == 0) = true := by rw [← hm]; rfl
 clear hm
 go_enter Tryz.func48, Tryz.ntmps48
 go_wp2_with fail
 exact bodyPost_ret (v := .tuple #[.agg #[.int .i64 c, .slice a m cap], .agg #[.int .i64 0, .int .i64 0, .int .i64 0, .int .i64 0, .int .i64 0], .int .i64 6]) (by simp [results, Tryz.results48, go_sem]) rfl ⟨rfl, (((Fr0.refl _ _).alloc _).alloc _).alloc _⟩
set_option maxRecDepth 100000 in
set_option maxHeartbeats 2000000 in
theorem rTake_some {w : World} {a : Option Addr} {m cap : Nat} (c : Int) (x : Ev) (E : List Ev) (h : EsIn w a (x :: E)) (hl : E.length + 1 = m) (hm : m ≤ 1000) (hc : m ≤ cap) :
  Calls Tryz.prog 48 #[.agg #[.int .i64 c, .slice a m cap]] w fun e w' => ∃ v, e = .returned (.tuple #[v, evV x, .int .i64 0]) ∧ RAt w' a w.heap.size c E v ∧ Fr0 none' w w' := by
 have H := Lib.hid h
 have Hl := Lib.hid hl
 have d1 : ((m : Int) == 0) = false := beq_eq_false_iff_ne.2 (by omega)
 clear h hl
 unfold evV
 go_enter Tryz.func48, Tryz.ntmps48
 go_wp2_with fail
 obtain ⟨SB, hSB⟩ : ∃ B, w.heap.size = B := ⟨_, rfl⟩
 obtain ⟨W1, hW1⟩ : ∃ W, w.alloc (.cells #[.int .i64 c, .slice a m cap] 50) = W := ⟨_, rfl⟩
 have HS := Lib.hid (show W1.heap[SB]? = some (.cells #[.int .i64 c, .slice a m cap] 50 (0, 0)) by rw [← hW1, ← hSB]; exact World.alloc_heap_new w _)
 have HF := Lib.hid (show Fr0 none' w W1 by rw [← hW1]; exact (Fr0.refl _ _).alloc _)
 rw [hW1]
 try rw [hSB]
 have HSB := Lib.hid hSB
 have HSz := Lib.hid (show W1.heap.size = SB + 1 by rw [← hW1, World.size_alloc, hSB])
 clear hW1 hSB
 have s0 := cells_in HS.out 0
 have s1 := cells_in HS.out 1
 simp at s0 s1
 go_wp2_with fail
 obtain ⟨W3, hW3⟩ : ∃ W, (W1.alloc (.cells #[.int .i64 0, .slice none 0 0] 50)).alloc (.cells #[.int .i64 0, .int .i64 0, .int .i64 0, .int .i64 0, .int .i64 0] 28) = W := ⟨_, rfl⟩
 have h3 : Fr0 none' W1 W3 := by rw [← hW3]; exact ((Fr0.refl _ _).alloc _).alloc _
 have HR1 := Lib.hid (show W3.heap[SB + 1]? = some (.cells #[.int .i64 0, .slice none 0 0] 50 (0, 0)) by
  rw [← hW3, ← HSz.out]
  exact ((((Fr0.refl none' (W1.alloc (.cells #[.int .i64 0, .slice none 0 0] 50))).alloc _).block W1.heap.size (by rw [World.size_alloc]; omega) id)).trans (World.alloc_heap_new W1 _))
 have HR2 := Lib.hid (show W3.heap[SB + 1 + 1]? = some (.cells #[.int .i64 0, .int .i64 0, .int .i64 0, .int .i64 0, .int .i64 0] 28 (0, 0)) by
  have h7 := World.alloc_heap_new (W1.alloc (.cells #[.int .i64 0, .slice none 0 0] 50)) (.cells #[.int .i64 0, .int .i64 0, .int .i64 0, .int .i64 0, .int .i64 0] 28)
  rw [World.size_alloc, HSz.out] at h7
  rw [← hW3]
  exact h7)
 have HS3 := Lib.hid ((h3.block SB (Array.getElem?_eq_some_iff.1 HS.out).1 id).trans HS.out)
 have HF3 := Lib.hid (HF.out.trans h3)
 rw [hW3]
 clear hW3 h3 s0 s1
 obtain ⟨g, o, rfl, hat⟩ := H.out 0 x rfl
 rw [Nat.zero_mul, Nat.add_zero] at hat
 have hgl : ∀ b, w.heap.size ≤ b → g ≠ b := fun b hb e => by
  have := World.block_lt_of_cell? _ _ hat.1
  simp only at this
  omega
 have hat3 := hat.later HF3.out
 have HZ := Lib.hid (fun (W' : World) (hf : Fr0 (fun k => k = SB + 1 ∨ k = SB + 1 + 1) W3 W') => (show W'.cell? ⟨SB, 0, none⟩ = some (.int .i64 c) ∧ W'.cell? ⟨SB, 1, none⟩ = some (.slice (some ⟨g, o, none⟩) m cap) ∧ EAt W' g o x from by
  have h7 := (hf.block SB (Array.getElem?_eq_some_iff.1 HS3.out).1 (fun h => by rcases h with h | h <;> omega)).trans HS3.out
  have s0 := cells_in h7 0
  have s1 := cells_in h7 1
  simp at s0 s1
  exact ⟨s0, s1, hat3.fr0 hf (fun h => by have h8 := HSB.out; rcases h with h | h <;> exact hgl _ (by omega) h)⟩))
 have hdR : (if cap = 1 then some (⟨g, o, none⟩ : Addr) else some ⟨g, o + 5, none⟩) = dR cap 1 (some ⟨g, o, none⟩) := rfl
 have hlm := Hl.out
 have m1 : (1 : Int) ≤ (m : Int) := by omega
 have m2 : (m : Int) ≤ (cap : Int) := by omega
 have m3 : (0 : Int) < (m : Int) := by omega
 clear hlm
 refine wp_region_held_drew (S := fun W' => Fr0 (fun k => k = SB + 1 ∨ k = SB + 1 + 1) W3 W') (by kernel_rfl) ((Fr0.refl _ W3).drew) (fun hHeld => ?_)
 refine tkn (i := 0) (v := .pointer (some ⟨SB, 0, none⟩)) (fun W' hSW => ?_) ?_
 ·obtain ⟨s0, s1, b0, b1, b2, b3, b4⟩ := HZ.out W' hSW
  first | (go_simp; done) | exact rfl | (go_simp; rfl) | (go_simp; omega)
 try simp only [pUt, pUn, sEt, sEz, sEs]
 refine tkn (i := 1) (v := .int .i64 c) (fun W' hSW => ?_) ?_
 ·obtain ⟨s0, s1, b0, b1, b2, b3, b4⟩ := HZ.out W' hSW
  first | (go_simp; done) | exact rfl | (go_simp; rfl) | (go_simp; omega)
 try simp only [pUt, pUn, sEt, sEz, sEs]
 refine tkn (i := 2) (v := .pointer (some ⟨SB, 1, none⟩)) (fun W' hSW => ?_) ?_
 ·obtain ⟨s0, s1, b0, b1, b2, b3, b4⟩ := HZ.out W' hSW
  first | (go_simp; done) | exact rfl | (go_simp; rfl) | (go_simp; omega)
 try simp only [pUt, pUn, sEt, sEz, sEs]
 refine tkn (i := 3) (v := .slice (some ⟨g, o, none⟩) m cap) (fun W' hSW => ?_) ?_
 ·obtain ⟨s0, s1, b0, b1, b2, b3, b4⟩ := HZ.out W' hSW
  first | (go_simp; done) | exact rfl | (go_simp; rfl) | (go_simp; omega)
 try simp only [pUt, pUn, sEt, sEz, sEs]
 refine tkn (i := 4) (v := .slice (dR cap 1 (some ⟨g, o, none⟩)) (m - 1) (cap - 1)) (fun W' hSW => ?_) ?_
 ·obtain ⟨s0, s1, b0, b1, b2, b3, b4⟩ := HZ.out W' hSW
  first | (go_simp; done) | exact rfl | (go_simp; rfl) | (go_simp; omega)
 try simp only [pUt, pUn, sEt, sEz, sEs]
 refine tkn (i := 5) (v := .agg #[.int .i64 c, .slice (dR cap 1 (some ⟨g, o, none⟩)) (m - 1) (cap - 1)]) (fun W' hSW => ?_) ?_
 ·obtain ⟨s0, s1, b0, b1, b2, b3, b4⟩ := HZ.out W' hSW
  first | (go_simp; done) | exact rfl | (go_simp; rfl) | (go_simp; omega)
 try simp only [pUt, pUn, sEt, sEz, sEs]
 refine tkn (i := 6) (v := .pointer (some ⟨SB, 1, none⟩)) (fun W' hSW => ?_) ?_
 ·obtain ⟨s0, s1, b0, b1, b2, b3, b4⟩ := HZ.out W' hSW
  first | (go_simp; done) | exact rfl | (go_simp; rfl) | (go_simp; omega)
 try simp only [pUt, pUn, sEt, sEz, sEs]
 refine tkn (i := 7) (v := .slice (some ⟨g, o, none⟩) m cap) (fun W' hSW => ?_) ?_
 ·obtain ⟨s0, s1, b0, b1, b2, b3, b4⟩ := HZ.out W' hSW
  first | (go_simp; done) | exact rfl | (go_simp; rfl) | (go_simp; omega)
 try simp only [pUt, pUn, sEt, sEz, sEs]
 refine tkn (i := 8) (v := .pointer (some ⟨g, o, none⟩)) (fun W' hSW => ?_) ?_
 ·obtain ⟨s0, s1, b0, b1, b2, b3, b4⟩ := HZ.out W' hSW
  first | (go_simp; done) | exact rfl | (go_simp; rfl) | (go_simp; omega)
 try simp only [pUt, pUn, sEt, sEz, sEs]
 refine tkn (i := 9) (v := .agg #[.int .i64 x.key.time, .int .i64 x.key.source, .int .i64 x.key.seq, .int .i64 x.to, .int .i64 x.value]) (fun W' hSW => ?_) ?_
 ·obtain ⟨s0, s1, b0, b1, b2, b3, b4⟩ := HZ.out W' hSW
  first | (go_simp; done) | exact rfl | (go_simp; rfl) | (go_simp; omega)
 try simp only [pUt, pUn, sEt, sEz, sEs]
 refine take_call (i := 10) rfl (by kernel_rfl) (by kernel_rfl) (fun K hK => ?_)
 have t0 := thaw_in HR1.out 0
 have t1 := thaw_in HR1.out 1
 have u0 := cells_in HR1.out 0
 have u1 := cells_in HR1.out 1
 simp at u0 u1
 go_simp
 obtain ⟨W5, hW5⟩ : ∃ W, (W3.setCell ⟨SB + 1, 0, none⟩ (.int .i64 c)).setCell ⟨SB + 1, 1, none⟩ (.slice (dR cap 1 (some ⟨g, o, none⟩)) (m - 1) (cap - 1)) = W := ⟨_, rfl⟩
 have f5 : Fr0 (fun k => k = SB + 1 ∨ k = SB + 1 + 1) W3 W5 := by rw [← hW5]; exact ((Fr0.refl (fun k => k = SB + 1 ∨ k = SB + 1 + 1) W3).setCell (fun _ => .inl rfl) _).setCell (fun _ => .inl rfl) _
 have HQ1 := Lib.hid (show W5.heap[SB + 1]? = some (.cells #[.int .i64 c, .slice (dR cap 1 (some ⟨g, o, none⟩)) (m - 1) (cap - 1)] 50 (0, 0)) by rw [← hW5]; exact heap_set_cell (heap_set_cell HR1.out _) _)
 have HQ2 := Lib.hid ((Fr0.block (show Fr0 (fun k => k = SB + 1) W3 W5 by rw [← hW5]; exact ((Fr0.refl (fun k => k = SB + 1) W3).setCell (fun _ => rfl) _).setCell (fun _ => rfl) _) (SB + 1 + 1) (Array.getElem?_eq_some_iff.1 HR2.out).1 (fun e => by omega)).trans HR2.out)
 rw [hW5]
 refine hK.out _ _ f5.drew (fun hS => ?_)
 clear hK K hW5 t0 t1 u0 u1
 try simp only [pUt, pUn, sEt, sEz, sEs]
 refine take_call (i := 11) rfl (by kernel_rfl) (by kernel_rfl) (fun K hK => ?_)
 have t0 := thaw_in HQ2.out 0
 have t1 := thaw_in HQ2.out 1
 have t2 := thaw_in HQ2.out 2
 have t3 := thaw_in HQ2.out 3
 have t4 := thaw_in HQ2.out 4
 have u0 := cells_in HQ2.out 0
 have u1 := cells_in HQ2.out 1
 have u2 := cells_in HQ2.out 2
 have u3 := cells_in HQ2.out 3
 have u4 := cells_in HQ2.out 4
 simp at u0 u1 u2 u3 u4
 go_simp
 obtain ⟨W6, hW6⟩ : ∃ W, ((((W5.setCell ⟨SB + 1 + 1, 0, none⟩ (.int .i64 (x).key.time)).setCell ⟨SB + 1 + 1, 1, none⟩ (.int .i64 (x).key.source)).setCell ⟨SB + 1 + 1, 2, none⟩ (.int .i64 (x).key.seq)).setCell ⟨SB + 1 + 1, 3, none⟩ (.int .i64 (x).to)).setCell ⟨SB + 1 + 1, 4, none⟩ (.int .i64 (x).value) = W := ⟨_, rfl⟩
 have f56 : Fr0 (fun k => k = SB + 1 + 1) W5 W6 := by rw [← hW6]; exact (((((Fr0.refl (fun k => k = SB + 1 + 1) W5).setCell (fun _ => rfl) _).setCell (fun _ => rfl) _).setCell (fun _ => rfl) _).setCell (fun _ => rfl) _).setCell (fun _ => rfl) _
 have f6 : Fr0 (fun k => k = SB + 1 ∨ k = SB + 1 + 1) W3 W6 := f5.trans (f56.mono (fun _ _ h => .inr h))
 have HQ1 := Lib.hid ((f56.block (SB + 1) (Array.getElem?_eq_some_iff.1 HQ1.out).1 (fun e => by omega)).trans HQ1.out)
 have HQ2 := Lib.hid (show W6.heap[SB + 1 + 1]? = some (.cells (cev (x)).toArray 28 (0, 0)) by rw [← hW6]; exact heap_set_cell (heap_set_cell (heap_set_cell (heap_set_cell (heap_set_cell HQ2.out _) _) _) _) _)
 rw [hW6]
 refine hK.out _ _ f6.drew (fun hS => ?_)
 clear hK K hW6 t0 t1 t2 t3 t4 u0 u1 u2 u3 u4
 try simp only [pUt, pUn, sEt, sEz, sEs]
 refine tkn (i := 12) (v := .int .i64 0) (fun W' hSW => ?_) ?_
 ·obtain ⟨s0, s1, b0, b1, b2, b3, b4⟩ := HZ.out W' hSW
  first | (go_simp; done) | exact rfl | (go_simp; rfl) | (go_simp; omega)
 try simp only [pUt, pUn, sEt, sEz, sEs]
 refine wpAnyH_done (by kernel_rfl) ?_ _
 clear hHeld
 have r0 := cells_in HQ1.out 0
 have r1 := cells_in HQ1.out 1
 simp at r0 r1
 have e0 := cells_in HQ2.out 0
 have e1 := cells_in HQ2.out 1
 have e2 := cells_in HQ2.out 2
 have e3 := cells_in HQ2.out 3
 have e4 := cells_in HQ2.out 4
 simp [cev] at e0 e1 e2 e3 e4
 have HFF := Lib.hid (show Fr0 none' w W6.drew from (HF3.out.trans' f6 (fun k hk h => by have := HSB.out; rcases h with h | h <;> omega)).drew)
 clear f5 f56 f6
 go_wp2_with fail
 refine bodyPost_ret (v := .tuple #[.agg #[.int .i64 c, .slice (dR cap 1 (some ⟨g, o, none⟩)) (m - 1) (cap - 1)], .agg #[.int .i64 x.key.time, .int .i64 x.key.source, .int .i64 x.key.seq, .int .i64 x.to, .int .i64 x.value], .int .i64 0]) (by simp [results, Tryz.results48, go_sem, r0, r1, e0, e1, e2, e3, e4]) rfl ⟨_, rfl, ?_, HFF.out⟩
 exact RAt.rest (n := 1) H.out Hl.out HFF.out hc (by have := Hl.out; omega)
set_option maxRecDepth 100000 in
set_option maxHeartbeats 2000000 in
theorem rFind_any {w : World} {a : Option Addr} {m cap : Nat} (c : Int) (E : List Ev) (h : EsIn w a E) (hl : E.length = m) (hm : m ≤ 1000) (p : Int × Int) :
  Calls Tryz.prog 51 #[.agg #[.int .i64 c, .slice a m cap], .int .i64 p.1, .int .i64 p.2] w fun e w' => e = .returned (.tuple #[evV ((findE p E).getD ⟨⟨0, 0, 0⟩, 0, 0⟩), .bool (findE p E).isSome]) ∧ Fr0 none' w w' := by
 have H := Lib.hid h
 have Hl := Lib.hid hl
 have HE := Lib.hid (fun (W : World) (hf : Fr0 none' w W) => rat_any E (h.later hf) hl (cap := cap) (by omega) p.1 p.2)
 clear h hl
 rcases at_find p E with ⟨h1, h2⟩ | ⟨k, x, h1, hx, h2, hn, _⟩
 ·rw [h2]
  have H1 := Lib.hid (show atE (p.1, p.2) E = -1 from h1)
  clear h1 h2
  simp only [Option.getD_none, Option.isSome_none, evV]
  go_enter Tryz.func51, Tryz.ntmps51
  go_wp2_with fail
  obtain ⟨SB, hSB⟩ : ∃ B, w.heap.size = B := ⟨_, rfl⟩
  obtain ⟨W1, hW1⟩ : ∃ W, w.alloc (.cells #[.int .i64 c, .slice a m cap] 50) = W := ⟨_, rfl⟩
  have HS := Lib.hid (show W1.heap[SB]? = some (.cells #[.int .i64 c, .slice a m cap] 50 (0, 0)) by rw [← hW1, ← hSB]; exact World.alloc_heap_new w _)
  have HF := Lib.hid (show Fr0 none' w W1 by rw [← hW1]; exact (Fr0.refl _ _).alloc _)
  rw [hW1]
  try rw [hSB]
  have HSB := Lib.hid hSB
  have HSz := Lib.hid (show W1.heap.size = SB + 1 by rw [← hW1, World.size_alloc, hSB])
  clear hW1 hSB
  have s0 := cells_in HS.out 0
  have s1 := cells_in HS.out 1
  simp at s0 s1
  go_wp2_with fail
  obtain ⟨W3, hW3⟩ : ∃ W, W1.alloc (.cells #[.int .i64 0, .int .i64 0, .int .i64 0, .int .i64 0, .int .i64 0] 28) = W := ⟨_, rfl⟩
  have h3 : Fr0 none' W1 W3 := by rw [← hW3]; exact (Fr0.refl _ _).alloc _
  have HR2 := Lib.hid (show W3.heap[SB + 1]? = some (.cells #[.int .i64 0, .int .i64 0, .int .i64 0, .int .i64 0, .int .i64 0] 28 (0, 0)) by rw [← hW3, ← HSz.out]; exact World.alloc_heap_new W1 _)
  have HS3 := Lib.hid ((h3.block SB (Array.getElem?_eq_some_iff.1 HS.out).1 id).trans HS.out)
  have HF3 := Lib.hid (HF.out.trans h3)
  rw [hW3]
  clear hW3 h3 s0 s1
  refine (HE.out _ HF3.out).mono ?_
  rintro e w3 ⟨rfl, rfl⟩
  rw [H1.out]
  have t0 := thaw_in HR2.out 0
  have t1 := thaw_in HR2.out 1
  have t2 := thaw_in HR2.out 2
  have t3 := thaw_in HR2.out 3
  have t4 := thaw_in HR2.out 4
  have e0 := cells_in HR2.out 0
  have e1 := cells_in HR2.out 1
  have e2 := cells_in HR2.out 2
  have e3 := cells_in HR2.out 3
  have e4 := cells_in HR2.out 4
  simp at e0 e1 e2 e3 e4
  go_wp2_with fail
  obtain ⟨W6, hW6⟩ : ∃ W, ((((W3.setCell ⟨SB + 1, 0, none⟩ (.int .i64 (0))).setCell ⟨SB + 1, 1, none⟩ (.int .i64 (0))).setCell ⟨SB + 1, 2, none⟩ (.int .i64 (0))).setCell ⟨SB + 1, 3, none⟩ (.int .i64 (0))).setCell ⟨SB + 1, 4, none⟩ (.int .i64 (0)) = W := ⟨_, rfl⟩
  have hg : SB + 1 < w.heap.size → none' (SB + 1) := fun e => by have := HSB.out; omega
  have f6 : Fr0 none' w W6 := by rw [← hW6]; exact ((((HF3.out.setCell hg _).setCell hg _).setCell hg _).setCell hg _).setCell hg _
  have hb6 : W6.heap[SB + 1]? = some (.cells #[.int .i64 (0), .int .i64 (0), .int .i64 (0), .int .i64 (0), .int .i64 (0)] 28 (0, 0)) := by rw [← hW6]; exact heap_set_cell (heap_set_cell (heap_set_cell (heap_set_cell (heap_set_cell HR2.out _) _) _) _) _
  rw [hW6]
  clear hW6 e0 e1 e2 e3 e4 t0 t1 t2 t3 t4
  have e0 := cells_in hb6 0
  have e1 := cells_in hb6 1
  have e2 := cells_in hb6 2
  have e3 := cells_in hb6 3
  have e4 := cells_in hb6 4
  simp at e0 e1 e2 e3 e4
  refine bodyPost_ret (v := .tuple #[.agg #[.int .i64 (0), .int .i64 (0), .int .i64 (0), .int .i64 (0), .int .i64 (0)], .bool false]) (by simp [results, Tryz.results51, go_sem, e0, e1, e2, e3, e4]) rfl ⟨rfl, f6⟩
 ·rw [h2]
  have H1 := Lib.hid (show atE (p.1, p.2) E = k from h1)
  have Hx := Lib.hid hx
  clear h1 h2 hx hn
  simp only [Option.getD_some, Option.isSome_some, evV]
  go_enter Tryz.func51, Tryz.ntmps51
  go_wp2_with fail
  obtain ⟨SB, hSB⟩ : ∃ B, w.heap.size = B := ⟨_, rfl⟩
  obtain ⟨W1, hW1⟩ : ∃ W, w.alloc (.cells #[.int .i64 c, .slice a m cap] 50) = W := ⟨_, rfl⟩
  have HS := Lib.hid (show W1.heap[SB]? = some (.cells #[.int .i64 c, .slice a m cap] 50 (0, 0)) by rw [← hW1, ← hSB]; exact World.alloc_heap_new w _)
  have HF := Lib.hid (show Fr0 none' w W1 by rw [← hW1]; exact (Fr0.refl _ _).alloc _)
  rw [hW1]
  try rw [hSB]
  have HSB := Lib.hid hSB
  have HSz := Lib.hid (show W1.heap.size = SB + 1 by rw [← hW1, World.size_alloc, hSB])
  clear hW1 hSB
  have s0 := cells_in HS.out 0
  have s1 := cells_in HS.out 1
  simp at s0 s1
  go_wp2_with fail
  obtain ⟨W3, hW3⟩ : ∃ W, W1.alloc (.cells #[.int .i64 0, .int .i64 0, .int .i64 0, .int .i64 0, .int .i64 0] 28) = W := ⟨_, rfl⟩
  have h3 : Fr0 none' W1 W3 := by rw [← hW3]; exact (Fr0.refl _ _).alloc _
  have HR2 := Lib.hid (show W3.heap[SB + 1]? = some (.cells #[.int .i64 0, .int .i64 0, .int .i64 0, .int .i64 0, .int .i64 0] 28 (0, 0)) by rw [← hW3, ← HSz.out]; exact World.alloc_heap_new W1 _)
  have HS3 := Lib.hid ((h3.block SB (Array.getElem?_eq_some_iff.1 HS.out).1 id).trans HS.out)
  have HF3 := Lib.hid (HF.out.trans h3)
  rw [hW3]
  clear hW3 h3 s0 s1
  refine (HE.out _ HF3.out).mono ?_
  rintro e w3 ⟨rfl, rfl⟩
  rw [H1.out]
  have t0 := thaw_in HR2.out 0
  have t1 := thaw_in HR2.out 1
  have t2 := thaw_in HR2.out 2
  have t3 := thaw_in HR2.out 3
  have t4 := thaw_in HR2.out 4
  have e0 := cells_in HR2.out 0
  have e1 := cells_in HR2.out 1
  have e2 := cells_in HR2.out 2
  have e3 := cells_in HR2.out 3
  have e4 := cells_in HR2.out 4
  simp at e0 e1 e2 e3 e4
  obtain ⟨g, o, rfl, hat⟩ := H.out k x Hx.out
  obtain ⟨x0, x1, x2, x3, x4⟩ := hat.later HF3.out
  have hkm : k < m := by have := (List.getElem?_eq_some_iff.1 Hx.out).1; have := Hl.out; omega
  have k1 : (0 : Int) ≤ (k : Int) := by omega
  have k2 : (k : Int) < (m : Int) := by omega
  have s0 := cells_in HS3.out 0
  have s1 := cells_in HS3.out 1
  simp at s0 s1
  clear hat
  go_wp2_with fail
  obtain ⟨W6, hW6⟩ : ∃ W, ((((W3.setCell ⟨SB + 1, 0, none⟩ (.int .i64 (x.key.time))).setCell ⟨SB + 1, 1, none⟩ (.int .i64 (x.key.source))).setCell ⟨SB + 1, 2, none⟩ (.int .i64 (x.key.seq))).setCell ⟨SB + 1, 3, none⟩ (.int .i64 (x.to))).setCell ⟨SB + 1, 4, none⟩ (.int .i64 (x.value)) = W := ⟨_, rfl⟩
  have hg : SB + 1 < w.heap.size → none' (SB + 1) := fun e => by have := HSB.out; omega
  have f6 : Fr0 none' w W6 := by rw [← hW6]; exact ((((HF3.out.setCell hg _).setCell hg _).setCell hg _).setCell hg _).setCell hg _
  have hb6 : W6.heap[SB + 1]? = some (.cells #[.int .i64 (x.key.time), .int .i64 (x.key.source), .int .i64 (x.key.seq), .int .i64 (x.to), .int .i64 (x.value)] 28 (0, 0)) := by rw [← hW6]; exact heap_set_cell (heap_set_cell (heap_set_cell (heap_set_cell (heap_set_cell HR2.out _) _) _) _) _
  rw [hW6]
  clear hW6 e0 e1 e2 e3 e4 t0 t1 t2 t3 t4
  have e0 := cells_in hb6 0
  have e1 := cells_in hb6 1
  have e2 := cells_in hb6 2
  have e3 := cells_in hb6 3
  have e4 := cells_in hb6 4
  simp at e0 e1 e2 e3 e4
  refine bodyPost_ret (v := .tuple #[.agg #[.int .i64 (x.key.time), .int .i64 (x.key.source), .int .i64 (x.key.seq), .int .i64 (x.to), .int .i64 (x.value)], .bool true]) (by simp [results, Tryz.results51, go_sem, e0, e1, e2, e3, e4]) rfl ⟨rfl, f6⟩
end Go.Proofs.YtmcgipilopfgoaaGreat

/-
  The queue: PutAll, Put.
-/
namespace Go.Proofs.YtmcgipilopfgoaaGreat
open Go Go.RowKit Go.ChangeMaps
attribute [local go_sem ↓] Go.wp_at_zero Go.wp_at_succ
attribute [local go_sem] Oper.semAt_some wide_fn wide_depth wide_fnR wide_depthR
variable {w w' : World} {qb n T : Nat} {E : List Ev} {ft : Nat → Prop}

theorem QIs.foot {ft' : Nat → Prop} (h : QIs w qb n T E ft) (hs : ∀ k, ft k → ft' k) (hl : ∀ k, ft' k → k < w.heap.size) : QIs w qb n T E ft' := by
 obtain ⟨sb, pb, hb, ba, eb, mb, hv, X, F, P, first, V, h1, h2, h3, h4⟩ := h
 exact ⟨sb, pb, hb, ba, eb, mb, hv, X, F, P, first, V, h1, h2, fun k hk => hs k (h3 k hk), hl⟩
theorem qgrow_refl (h : QIs w qb n T E ft) : QIs w qb n T E (qgrow ft w w) := h.foot (fun k hk => .inl hk) (fun k hk => hk.elim (h.lt k) (fun g => g.2))
theorem qgrow_trans {a b c : World} (hab : a.heap.size ≤ b.heap.size) (hbc : b.heap.size ≤ c.heap.size) {k : Nat} (h : qgrow (qgrow ft a b) b c k) : qgrow ft a c k := by
 rcases h with (h | h) | h
 ·exact .inl h
 ·exact .inr ⟨h.1, by omega⟩
 ·exact .inr ⟨by omega, h.2⟩
theorem qgrow_lt {a b : World} (hab : a.heap.size ≤ b.heap.size) (hlt : ∀ k, ft k → k < a.heap.size) {k : Nat} (h : qgrow ft a b k) : k < b.heap.size := by
 rcases h with h | h
 ·have := hlt k h; omega
 ·exact h.2
theorem fr_grow {a b c : World} (h1 : Fr0 ft a b) (h2 : Fr0 (qgrow ft a b) b c) : Fr0 ft a c := h1.trans' h2 (fun k hk h => by
 rcases h with h | h
 ·exact h
 ·omega)
/-- Two acts, one behind the other. -/
theorem QIs.then {b c : World} {T' : Nat} {E' : List Ev} (h : QIs c qb n T' E' (qgrow (qgrow ft w b) b c)) (h1 : w.heap.size ≤ b.heap.size) (h2 : b.heap.size ≤ c.heap.size) (hlt : ∀ k, ft k → k < w.heap.size) : QIs c qb n T' E' (qgrow ft w c) :=
 h.foot (fun _ hk => qgrow_trans h1 h2 hk) (fun _ hk => qgrow_lt (Nat.le_trans h1 h2) hlt hk)
/-- A world that keeps a queue, ahead of an act. -/
theorem QIs.after {b c : World} {T' : Nat} {E' : List Ev} (h : QIs c qb n T' E' (qgrow ft b c)) (h1 : w.heap.size ≤ b.heap.size) (h2 : b.heap.size ≤ c.heap.size) (hlt : ∀ k, ft k → k < w.heap.size) : QIs c qb n T' E' (qgrow ft w c) :=
 h.foot (fun _ hk => hk.elim .inl (fun g => .inr ⟨by omega, g.2⟩)) (fun _ hk => qgrow_lt (Nat.le_trans h1 h2) hlt hk)
theorem QIs.isnt (h : QIs w qb n T E ft) : Calls Tryz.prog 58 #[.pointer (some ⟨qb, 0, none⟩)] w fun e w' => e = .returned (.bool false) ∧ w = w' := by
 obtain ⟨sb, pb, hb, ba, eb, mb, hv, X, F, P, first, V, h1, rfl, h3, h4⟩ := h
 exact qnone_is h1
theorem QIs.check (h : QIs w qb n T E ft) {a : Option Addr} {m cap : Nat} (l : List Ev) (hl : EsIn w a l) (hm : l.length = m) (hm' : m ≤ 100000) :
  Calls Tryz.prog 61 #[.pointer (some ⟨qb, 0, none⟩), .slice a m cap] w fun e w' => e = .returned (.tuple #[.int .i64 (chkE E l).1, .int .i64 (chkE E l).2]) ∧ Fr0 none' w w' := by
 obtain ⟨sb, pb, hb, ba, eb, mb, hv, X, F, P, first, V, h1, rfl, h3, h4⟩ := h
 exact Qcheck_is h1 l hl hm hm'
set_option maxRecDepth 100000 in
set_option maxHeartbeats 2000000 in
theorem QIs.putAll (h : QIs w qb n T E ft) {a : Option Addr} {m cap : Nat} (l : List Ev) (hl : EsIn w a l) (hm : l.length = m) (hm' : m ≤ 100000) (hT : T + m < 4294967295) (ha : ∀ g o s, a = some ⟨g, o, s⟩ → ¬ ft g) :
  Calls Tryz.prog 26 #[.pointer (some ⟨qb, 0, none⟩), .slice a m cap] w fun e w' => e = .returned (.tuple #[.int .i64 (allV n E l).1, .int .i64 (allV n E l).2]) ∧ QIs w' qb n (T + m) (allE n E l) (qgrow ft w w') ∧ Fr0 ft w w' := by
 obtain ⟨R, hR⟩ : ∃ R, allV n E l = R := ⟨_, rfl⟩
 have H := Lib.hid h
 have Hl := Lib.hid hl
 have Hm := Lib.hid hm
 have Ha := Lib.hid ha
 obtain ⟨C, hC⟩ : ∃ C, chkE E l = C := ⟨_, rfl⟩
 have HCk := Lib.hid (h.check l (cap := cap) hl hm hm')
 rw [hC] at HCk
 obtain ⟨ci, ce⟩ := C
 have hle := h.le
 unfold allE
 rw [hR]
 have HR := Lib.hid hR
 have HC := Lib.hid hC
 simp only at HCk
 by_cases hc0 : ce = 0
 ·subst hc0
  obtain ⟨hr, hd, hc1⟩ := chkE_ok (E := E) (l := l) (by rw [hC])
  have d0 : ((0 : Int) != 0) = false := by simp
  have HRi := Lib.hid hr
  have HD := Lib.hid hd
  by_cases hroom : n - E.length < m
  ·have hres : R = (-1, 4) := by rw [← hR]; unfold allV; rw [hC, if_neg (by simp), if_pos (by rw [hm]; exact hroom)]
   subst hres
   rw [if_neg (by simp)]
   have d1 : decide (((n - E.length : Nat) : Int) < (m : Int)) = true := decide_eq_true (by omega)
   have d2 : decide (n - E.length < m) = true := decide_eq_true hroom
   clear h hl hm ha hC hR hr hd hc1 hroom hle
   go_enter Tryz.func26, Tryz.ntmps26
   go_wp2_with fail
   refine H.out.isnt.mono ?_
   rintro e w1 ⟨rfl, rfl⟩
   go_wp2_with fail
   refine HCk.out.mono ?_
   rintro e w2 ⟨rfl, hf2⟩
   have H2 := Lib.hid (H.out.later hf2)
   have F2 := Lib.hid hf2
   clear hf2
   go_wp2_with fail
   refine H2.out.room.mono ?_
   rintro e w3 ⟨rfl, hf3⟩
   have F3 := Lib.hid (F2.out.trans hf3)
   clear hf3
   go_wp2_with fail
   go_ret2
   exact ⟨rfl, ((H.out.later F3.out).mono (Nat.le_add_right _ _)).foot (fun _ hk => .inl hk) (fun k hk => qgrow_lt F3.out.size H.out.lt hk), F3.out.mono (fun _ _ h => h.elim)⟩
  ·have hres : R = (-1, 0) := by rw [← hR]; unfold allV; rw [hC, if_neg (by simp), if_neg (by rw [hm]; exact hroom)]
   subst hres
   rw [if_pos rfl]
   have d1 : decide (((n - E.length : Nat) : Int) < (m : Int)) = false := decide_eq_false (by omega)
   have d2 : decide (n - E.length < m) = false := decide_eq_false hroom
   have Hroom := Lib.hid hroom
   have Hle := Lib.hid hle
   clear h hl hm ha hC hR hr hd hc1 hroom hle
   go_enter Tryz.func26, Tryz.ntmps26
   go_wp2_with fail
   refine H.out.isnt.mono ?_
   rintro e w1 ⟨rfl, rfl⟩
   go_wp2_with fail
   refine HCk.out.mono ?_
   rintro e w2 ⟨rfl, hf2⟩
   have H2 := Lib.hid (H.out.later hf2)
   have F2 := Lib.hid hf2
   clear hf2
   go_wp2_with fail
   refine H2.out.room.mono ?_
   rintro e w3 ⟨rfl, hf3⟩
   have F3 := Lib.hid (F2.out.trans hf3)
   clear hf3
   go_wp2_with fail
   go_loopw [9, 29] (fun _ i wr => ∃ k : Nat, k ≤ m ∧ i = .int .i64 k ∧ Hid (QIs wr qb n (T + k) (putsE (l.take k) E) (qgrow ft w wr)) ∧ Hid (Fr0 ft w wr)) (fun _ i _ => m - (Go.RowKit.intOf i).toNat)
   case atStart => exact ⟨0, Nat.zero_le _, rfl, (H.out.later F3.out).foot (fun _ hk => .inl hk) (fun k hk => qgrow_lt F3.out.size H.out.lt hk), F3.out.mono (fun _ _ h => h.elim)⟩
   case round =>
    obtain ⟨k, hk, rfl, hq, hfr⟩ := hrel
    by_cases hlt : k < m
    ·obtain ⟨x, hx⟩ : ∃ x, l[k]? = some x := ⟨_, List.getElem?_eq_getElem (by rw [Hm.out]; exact hlt)⟩
     have hlw := Hl.out.fr0 hfr.out Ha.out
     obtain ⟨g2, o, rfl, hxc⟩ := hlw k x hx
     obtain ⟨x0, x1, x2, x3, x4⟩ := hxc
     have hre := HRi.out x (List.mem_of_getElem? hx)
     have hsn : putsE (l.take (k + 1)) E = insE x (putsE (l.take k) E) := by rw [List.take_add_one, hx]; exact putsE_snoc _ _ _
     have hnm : ∀ y ∈ putsE (l.take k) E, y.name ≠ x.name := fun y hy => by
      have h2 := HD.out k (by rw [Hm.out]; exact hlt)
      unfold dupB at h2
      rw [hx] at h2
      simp only [List.any_append, Bool.or_eq_false_iff, List.any_eq_false, beq_iff_eq] at h2
      rcases putsE_mem.1 hy with hy | hy
      ·exact h2.2 y hy
      ·exact h2.1 y hy
     have hroom : (putsE (l.take k) E).length < n := by
      rw [putsE_length, List.length_take, Hm.out]
      have := Hroom.out
      have := Hle.out
      omega
     have HPt := Lib.hid (fun (W : World) (hf : Fr0 none' wr W) => (hq.out.later hf).put hre hnm (by omega) hroom)
     have Hsn := Lib.hid hsn
     have k1 : (0 : Int) ≤ (k : Int) := by omega
     have k2 : (k : Int) < (m : Int) := by omega
     clear hx hlw hre hsn hnm hroom
     unfold evV at HPt
     go_wp2_with fail
     refine (HPt.out _ ((Fr0.refl none' wr).alloc _)).mono ?_
     rintro e w5 ⟨rfl, hq5, hf5⟩
     have hs5 : wr.heap.size ≤ w5.heap.size := by have := hf5.size; rw [World.size_alloc] at this; omega
     have hq5 := Lib.hid ((hq5.after (w := wr) (by simp) hf5.size (fun k hk => hq.out.lt k hk)).then hfr.out.size hs5 H.out.lt)
     have hf5 := Lib.hid (fr_grow hfr.out (((Fr0.refl none' wr).alloc (.cells #[.int .i64 x.key.time, .int .i64 x.key.source, .int .i64 x.key.seq, .int .i64 x.to, .int .i64 x.value] 28)).mono (fun _ _ h => h.elim) |>.trans hf5))
     rw [← Hsn.out] at hq5
     clear x0 x1 x2 x3 x4
     go_wp2_with fail
     go_roundw
     case rel => exact ⟨k + 1, by omega, by go_num, hq5, hf5⟩
     case measure => simp [Go.RowKit.intOf]; omega
    ·have hkm : k = m := by omega
     subst hkm
     rw [List.take_of_length_le (by rw [Hm.out]; exact Nat.le_refl _)] at hq
     go_wp2
     go_ret2
     exact ⟨rfl, hq.out, hfr.out⟩
 ·have hres : R = (ci, ce) := by rw [← hR]; unfold allV; rw [hC, if_pos hc0]
  subst hres
  rw [if_neg hc0]
  have d0 : (ce != 0) = true := by simpa using hc0
  clear h hl hm ha hC hR hle hc0
  go_enter Tryz.func26, Tryz.ntmps26
  go_wp2_with fail
  refine H.out.isnt.mono ?_
  rintro e w1 ⟨rfl, rfl⟩
  go_wp2_with fail
  refine HCk.out.mono ?_
  rintro e w2 ⟨rfl, hf2⟩
  go_wp2_with fail
  go_ret2
  exact ⟨rfl, ((H.out.later hf2).mono (Nat.le_add_right _ _)).foot (fun _ hk => .inl hk) (fun k hk => qgrow_lt hf2.size H.out.lt hk), hf2.mono (fun _ _ h => h.elim)⟩
set_option maxRecDepth 100000 in
set_option maxHeartbeats 2000000 in
theorem QIs.put1 (h : QIs w qb n T E ft) (x : Ev) (hT : T + 1 < 4294967295) :
  Calls Tryz.prog 22 #[.pointer (some ⟨qb, 0, none⟩), evV x] w fun e w' => e = .returned (.int .i64 (allV n E [x]).2) ∧ QIs w' qb n (T + 1) (allE n E [x]) (qgrow ft w w') ∧ Fr0 ft w w' := by
 have H := Lib.hid h
 obtain ⟨R, hR⟩ : ∃ R, allV n E [x] = R := ⟨_, rfl⟩
 obtain ⟨E', hE'⟩ : ∃ E', allE n E [x] = E' := ⟨_, rfl⟩
 rw [hR, hE']
 have HR := Lib.hid hR
 have HE := Lib.hid hE'
 clear h hR hE'
 unfold evV
 go_enter Tryz.func22, Tryz.ntmps22
 go_wp2_with fail
 obtain ⟨W1, hW1⟩ : ∃ W, ((w.alloc (.cells #[.int .i64 x.key.time, .int .i64 x.key.source, .int .i64 x.key.seq, .int .i64 x.to, .int .i64 x.value] 28)).alloc (.cells #[.int .i64 x.key.time, .int .i64 x.key.source, .int .i64 x.key.seq, .int .i64 x.to, .int .i64 x.value] 28)) = W := ⟨_, rfl⟩
 have f1 : Fr0 none' w W1 := by rw [← hW1]; exact ((Fr0.refl _ _).alloc _).alloc _
 have hl1 : EsIn W1 (some ⟨w.heap.size + 1, 0, none⟩) [x] := by
  rw [← hW1]
  have := World.alloc_heap_new (w.alloc (.cells #[.int .i64 x.key.time, .int .i64 x.key.source, .int .i64 x.key.seq, .int .i64 x.to, .int .i64 x.value] 28)) (.cells #[.int .i64 x.key.time, .int .i64 x.key.source, .int .i64 x.key.seq, .int .i64 x.to, .int .i64 x.value] 28)
  rw [World.size_alloc] at this
  exact EsIn.of_cells (n := 1) this (by simp [flatEv, cev])
 rw [hW1]
 refine ((H.out.later f1).putAll (m := 1) (cap := 1) [x] hl1 rfl (by omega) hT (fun g o s e => by
  have e1 : w.heap.size + 1 = g := by injection e with e; injection e
  intro hg
  have := H.out.lt g hg
  omega)).mono ?_
 rintro e w2 ⟨rfl, hq2, hf2⟩
 rw [HE.out] at hq2
 rw [HR.out]
 have hq2 := Lib.hid (hq2.after f1.size hf2.size H.out.lt)
 have hf2 := Lib.hid ((f1.mono (fun _ _ h => h.elim)).trans hf2)
 clear hW1 f1 hl1
 go_wp2_with fail
 go_ret
 exact ⟨rfl, hq2.out, hf2.out⟩
end Go.Proofs.YtmcgipilopfgoaaGreat

/-
  The queue: TakeBefore, Clear.
-/
namespace Go.Proofs.YtmcgipilopfgoaaGreat
open Go Go.RowKit Go.ChangeMaps
attribute [local go_sem ↓] Go.wp_at_zero Go.wp_at_succ
attribute [local go_sem] Oper.semAt_some wide_fn wide_depth wide_fnR wide_depthR
variable {w w' : World} {qb n T : Nat} {E : List Ev} {ft : Nat → Prop}

set_option maxRecDepth 100000 in
set_option maxHeartbeats 2000000 in
theorem QIs.clear (h : QIs w qb n T E ft) (hT : T < 4294967296) :
  Calls Tryz.prog 30 #[.pointer (some ⟨qb, 0, none⟩)] w fun e w' => e = .returned (.tuple #[.int .i64 (E.length : Nat), .int .i64 0]) ∧ QIs w' qb n T [] (qgrow ft w w') ∧ Fr0 ft w w' := by
 have H := Lib.hid h
 obtain ⟨m, hm⟩ : ∃ m, E.length = m := ⟨_, rfl⟩
 have HL := Lib.hid h.len
 rw [hm] at HL ⊢
 have Hm := Lib.hid hm
 have hm' : m ≤ 256 := by have := h.le; omega
 clear h hm
 go_enter Tryz.func30, Tryz.ntmps30
 go_wp2_with fail
 refine H.out.isnt.mono ?_
 rintro e w1 ⟨rfl, rfl⟩
 go_wp2_with fail
 refine HL.out.mono ?_
 rintro e w1 ⟨rfl, rfl⟩
 go_wp2_with fail
 go_loopw [10] (fun i wr => ∃ k : Nat, k ≤ m ∧ i = .int .i64 k ∧ Hid (QIs wr qb n T (E.drop k) (qgrow ft w wr)) ∧ Hid (Fr0 ft w wr)) (fun i _ => m - (Go.RowKit.intOf i).toNat)
 case atStart => exact ⟨0, Nat.zero_le _, rfl, qgrow_refl H.out, Fr0.refl _ _⟩
 case round =>
  obtain ⟨k, hk, rfl, hq, hfr⟩ := hrel
  by_cases hlt : k < m
  ·have k1 : (0 : Int) ≤ (k : Int) := by omega
   have k2 : (k : Int) < (m : Int) := by omega
   go_wp2_with fail
   refine (hq.out.take hT).mono ?_
   rintro e w5 ⟨rfl, hq5, hf5⟩
   rw [List.tail_drop] at hq5
   have hq5 := Lib.hid (hq5.then hfr.out.size hf5.size H.out.lt)
   have hf5 := Lib.hid (fr_grow hfr.out hf5)
   go_wp2_with fail
   go_roundw
   case rel => exact ⟨k + 1, by omega, by go_num, hq5, hf5⟩
   case measure => simp [Go.RowKit.intOf]; omega
  ·have hkm : k = m := by omega
   subst hkm
   rw [List.drop_of_length_le (by rw [Hm.out]; exact Nat.le_refl _)] at hq
   go_wp2
   go_ret2
   exact ⟨rfl, hq.out, hfr.out⟩
/-- What TakeBefore leaves. -/
def BefPost (w : World) (qb n T : Nat) (E : List Ev) (ft : Nat → Prop) (t : Int) (e : Ending) (w' : World) : Prop :=
 ∃ v ft', e = .returned v ∧ w'.ownsRow w.heap.size 28 5 v (befE t E).length (flatEv (befE t E)) ∧ QIs w' qb n T (aftE t E) ft' ∧ (∀ k, ft' k → ft k ∨ w.heap.size ≤ k) ∧ (∀ g, v.ownBlock = some g → ¬ ft' g) ∧ Fr0 ft w w'
set_option maxRecDepth 100000 in
set_option maxHeartbeats 2000000 in
theorem QIs.takeBefore (h : QIs w qb n T E ft) (t : Int) (hT : T < 4294967296) :
  Calls Tryz.prog 24 #[.pointer (some ⟨qb, 0, none⟩), .int .i64 t] w (BefPost w qb n T E ft t) := by
 have H := Lib.hid h
 have HLe := Lib.hid h.least
 have HE := Lib.hid h.le
 clear h
 obtain ⟨i0, hi, hz0, hz1, hz2⟩ := info_parts info_event0
 go_enter Tryz.func24, Tryz.ntmps24
 go_wp2_with fail
 refine HLe.out.mono ?_
 rintro e w1 ⟨rfl, hf1⟩
 obtain ⟨x0, hx0⟩ : ∃ x0, lstE E = x0 := ⟨_, rfl⟩
 obtain ⟨b0, hb0⟩ : ∃ b0, (!E.isEmpty) = b0 := ⟨_, rfl⟩
 rw [hx0, hb0]
 simp only [evV]
 have Hx0 := Lib.hid hx0
 have Hb0 := Lib.hid hb0
 clear hx0 hb0
 go_wp2_with fail
 obtain ⟨q0, hq0⟩ : ∃ q0, w1.heap.size = q0 := ⟨_, rfl⟩
 obtain ⟨W2, hW2⟩ : ∃ W, w1.alloc (.cells #[.int .i64 x0.key.time, .int .i64 x0.key.source, .int .i64 x0.key.seq, .int .i64 x0.to, .int .i64 x0.value] 28) = W := ⟨_, rfl⟩
 have hb2 := Lib.hid (show W2.heap[q0]? = some (.cells #[.int .i64 x0.key.time, .int .i64 x0.key.source, .int .i64 x0.key.seq, .int .i64 x0.to, .int .i64 x0.value] 28 (0, 0)) by rw [← hW2, ← hq0]; exact World.alloc_heap_new w1 _)
 have F2 := Lib.hid (show Fr0 none' w W2 by rw [← hW2]; exact hf1.alloc _)
 have Hq0 := Lib.hid (show w.heap.size ≤ q0 by rw [← hq0]; exact hf1.size)
 rw [hW2]
 try rw [hq0]
 clear hW2 hq0 hf1
 go_loopw [5, 6, 7] (fun v p b wr => ∃ (k q : Nat) (x : Ev) (fk : Nat → Prop) (bo : Bool), p = .pointer (some ⟨q, 0, none⟩) ∧ b = .bool bo ∧ k ≤ E.length ∧ Hid (lstE (E.drop k) = x ∧ (!(E.drop k).isEmpty) = bo) ∧
  Hid (wr.heap[q]? = some (.cells #[.int .i64 x.key.time, .int .i64 x.key.source, .int .i64 x.key.seq, .int .i64 x.to, .int .i64 x.value] 28 (0, 0))) ∧ Hid (wr.ownsRow w.heap.size 28 5 v k (flatEv (E.take k))) ∧ Hid (∀ y ∈ E.take k, y.key.time < t) ∧
  Hid (QIs wr qb n T (E.drop k) fk) ∧ Hid ((∀ k, fk k → ft k ∨ w.heap.size ≤ k) ∧ ¬ fk q ∧ w.heap.size ≤ q ∧ ∀ g, v.ownBlock = some g → ¬ fk g ∧ g ≠ q) ∧ Hid (Fr0 ft w wr)) (fun v _ _ _ => E.length - (match v with | .slice _ j _ => j | _ => 0))
 case atStart =>
  exact ⟨0, q0, x0, ft, b0, rfl, rfl, Nat.zero_le _, ⟨Hx0.out, Hb0.out⟩, hb2, World.ownsRow_nil _ _ _ _, by unfold Hid; simp, H.out.later F2.out, ⟨fun _ h => .inl h, fun h => by have := H.out.lt _ h; have := Hq0.out; omega, Hq0.out, fun g hg => by cases hg⟩, F2.out.mono (fun _ _ h => h.elim)⟩
 case round =>
  obtain ⟨k, q, x, fk, bo, rfl, rfl, hk, hx, hbq, hrow, hpre, hq, hdis, hfr⟩ := hrel
  obtain ⟨va, vc, rfl, _, _⟩ := EsIn.of_own hrow.out
  by_cases hlt : k < E.length
  ·obtain ⟨y, hy⟩ : ∃ y, E[k]? = some y := ⟨_, List.getElem?_eq_getElem hlt⟩
   have hdr : E.drop k = y :: E.drop (k + 1) := by
    rw [List.drop_eq_getElem_cons hlt]
    congr 1
    rw [List.getElem?_eq_getElem hlt] at hy
    exact Option.some.inj hy
   have hxy : y = x := by have := hx.out.1; rw [hdr] at this; exact this
   have hbo : true = bo := by have := hx.out.2; rw [hdr] at this; exact this
   subst hxy
   subst hbo
   have Hy := Lib.hid hy
   have Hdr := Lib.hid hdr
   clear hy hdr hx
   have x0 := cells_in hbq.out 0
   simp at x0
   by_cases ht : y.key.time < t
   ·have d1 : decide (y.key.time < t) = true := decide_eq_true ht
    have Ht := Lib.hid ht
    clear ht
    go_wp2_with fail
    refine (hq.out.take hT).mono ?_
    rintro e w5 ⟨rfl, hq5, hf5⟩
    have hb5 := Lib.hid ((hf5.block q (Array.getElem?_eq_some_iff.1 hbq.out).1 hdis.out.2.1).trans hbq.out)
    have hr5 := Lib.hid (ownsRow_fr0 hrow.out hf5 (fun g hg => (hdis.out.2.2.2 g hg).1))
    have hq5 := Lib.hid hq5
    have F5 := Lib.hid hf5
    have Fw5 := Lib.hid (hfr.out.trans' hf5 (fun i hi hs => (hdis.out.1 i hs).elim id (fun h => by omega)))
    clear x0 d1 hf5
    have x0 := cells_in hb5.out 0
    have x1 := cells_in hb5.out 1
    have x2 := cells_in hb5.out 2
    have x3 := cells_in hb5.out 3
    have x4 := cells_in hb5.out 4
    simp at x0 x1 x2 x3 x4
    have hsrc := Src.newRow (P := Tryz.prog) (size := 5) (tx := 30) (ty := 28) w5 Tryz.underlying30 1 1 (cev y) rfl (by simp [Value.oneCell', cev])
    simp only [cev] at hsrc
    have hbase : w.heap.size ≤ w5.heap.size := Fw5.out.size
    have hkn : k ≤ 256 := by have := HE.out; omega
    go_wp2_with (at_builtin; refine wpList_append_k rfl _ _ 30 30 rfl w.heap.size 28 i0 (.agg #[.int .i64 0, .int .i64 0, .int .i64 0, .int .i64 0, .int .i64 0]) 5 40 Tryz.underlying30 hi hz0 hz1 hz2 rfl (by decide) (.slice va k vc) k _ rfl (ownsRow_fr0 hr5.out ((Fr0.refl none' w5).alloc _) (fun _ _ h => h)) (.slice (some ⟨w5.heap.size, 0, none⟩) 1 1) 1 _ rfl hsrc (by unfold maxLen; omega) (by omega) (by simp; omega) ?_; intro v6 w6 hown hgrow hdr hob; have Hown := Lib.hid hown; have Hgr := Lib.hid hgrow; have Hob := Lib.hid hob; have hfg : Fr0 (fun i => (Value.slice va k vc).ownBlock = some i) w5 w6 := ((Fr0.refl _ w5).alloc _).grown hgrow (fun i hi _ => hi); have hb6 := (hfg.block q (Array.getElem?_eq_some_iff.1 hb5.out).1 (fun e => (hdis.out.2.2.2 q e).2 rfl)).trans hb5.out; have F6 := Lib.hid hfg; have Hb6 := Lib.hid hb6; clear hown hgrow hdr hob x0 x1 x2 x3 x4 hfg hsrc; have x0 := cells_in hb6 0; have x1 := cells_in hb6 1; have x2 := cells_in hb6 2; have x3 := cells_in hb6 3; have x4 := cells_in hb6 4; simp at x0 x1 x2 x3 x4; clear hb6)
    clear x0 x1 x2 x3 x4
    obtain ⟨q6, hq6⟩ : ∃ q6, w6.heap.size = q6 := ⟨_, rfl⟩
    obtain ⟨W7, hW7⟩ : ∃ W, w6.alloc (.cells #[.int .i64 y.key.time, .int .i64 y.key.source, .int .i64 y.key.seq, .int .i64 y.to, .int .i64 y.value] 28) = W := ⟨_, rfl⟩
    have hb7 := Lib.hid (show W7.heap[q6]? = some (.cells #[.int .i64 y.key.time, .int .i64 y.key.source, .int .i64 y.key.seq, .int .i64 y.to, .int .i64 y.value] 28 (0, 0)) by rw [← hW7, ← hq6]; exact World.alloc_heap_new w6 _)
    have F7 := Lib.hid (show Fr0 none' w6 W7 by rw [← hW7]; exact (Fr0.refl _ _).alloc _)
    rw [hW7]
    try rw [hq6]
    have Hq6 := Lib.hid hq6
    clear hW7 hq6
    have hq57 : ∀ g, (Value.slice va k vc).ownBlock = some g → ¬ qgrow fk wr w5 g := fun g hg hh => by
     have h1 := hrow.out.lt g hg
     rcases hh with hh | hh
     ·exact (hdis.out.2.2.2 g hg).1 hh
     ·omega
    have HQ7 := Lib.hid ((hq5.out.fr0 F6.out (fun j hj hs => hq57 j hs hj)).later F7.out)
    refine HQ7.out.least.mono ?_
    rintro e w8 ⟨rfl, hf8⟩
    rw [List.tail_drop] at HQ7 ⊢
    obtain ⟨z, hz⟩ : ∃ z, lstE (E.drop (k + 1)) = z := ⟨_, rfl⟩
    obtain ⟨b2, hb2⟩ : ∃ b2, (!(E.drop (k + 1)).isEmpty) = b2 := ⟨_, rfl⟩
    rw [hz, hb2]
    have HZ := Lib.hid (show lstE (E.drop (k + 1)) = z ∧ (!(E.drop (k + 1)).isEmpty) = b2 from ⟨hz, hb2⟩)
    have hb8 := Lib.hid ((hf8.block q6 (Array.getElem?_eq_some_iff.1 hb7.out).1 id).trans hb7.out)
    have F68 := Lib.hid (F7.out.trans hf8)
    have HQ8 := Lib.hid (HQ7.out.later hf8)
    have Hq57 := Lib.hid hq57
    clear hz hb2 hf8 hq57
    simp only [evV]
    have y0 := cells_in hb8.out 0
    have y1 := cells_in hb8.out 1
    have y2 := cells_in hb8.out 2
    have y3 := cells_in hb8.out 3
    have y4 := cells_in hb8.out 4
    simp at y0 y1 y2 y3 y4
    have t0 := thaw_in hb8.out 0
    have t1 := thaw_in hb8.out 1
    have t2 := thaw_in hb8.out 2
    have t3 := thaw_in hb8.out 3
    have t4 := thaw_in hb8.out 4
    go_wp2_with fail
    obtain ⟨W9, hW9⟩ : ∃ W, (((((w8.setCell ⟨q6, 0, none⟩ (.int .i64 z.key.time)).setCell ⟨q6, 1, none⟩ (.int .i64 z.key.source)).setCell ⟨q6, 2, none⟩ (.int .i64 z.key.seq)).setCell ⟨q6, 3, none⟩ (.int .i64 z.to)).setCell ⟨q6, 4, none⟩ (.int .i64 z.value)) = W := ⟨_, rfl⟩
    try rw [hW9]
    have e9 := Lib.hid (show W9.heap[q6]? = some (.cells #[.int .i64 z.key.time, .int .i64 z.key.source, .int .i64 z.key.seq, .int .i64 z.to, .int .i64 z.value] 28 (0, 0)) by rw [← hW9]; exact ev_set5 hb8.out _ _ _ _ _)
    have f89 : Fr0 (fun j => j = q6) w8 W9 := by rw [← hW9]; exact (((((Fr0.refl (fun j => j = q6) w8).setCell (fun _ => rfl) _).setCell (fun _ => rfl) _).setCell (fun _ => rfl) _).setCell (fun _ => rfl) _).setCell (fun _ => rfl) _
    have hs5 : wr.heap.size ≤ w5.heap.size := F5.out.size
    have hs6 : w5.heap.size ≤ q6 := by rw [← Hq6.out]; exact F6.out.size
    have hsr : w.heap.size ≤ wr.heap.size := hfr.out.size
    have hfk : ∀ j, qgrow fk wr w5 j → j < w5.heap.size := fun j hj => qgrow_lt hs5 hq.out.lt hj
    have hv6 : ∀ g, v6.ownBlock = some g → ¬ qgrow fk wr w5 g ∧ g ≠ q6 := fun g hg => by
     have hl6 := (Hown.out.lt g hg).2
     refine ⟨fun hh => ?_, by rw [← Hq6.out]; omega⟩
     rcases Hob.out with hob | hob
     ·exact Hq57.out g (by rw [← hob]; exact hg) hh
     ·rw [hg] at hob
      injection hob with hob
      have := hfk g hh
      rw [World.size_alloc] at hob
      omega
    have hrow9 : W9.ownsRow w.heap.size 28 5 v6 (k + 1) (flatEv (E.take (k + 1))) := by
     have h1 := Hown.out
     rw [show [Value.int IntKind.i64 y.key.time, Value.int IntKind.i64 y.key.source, Value.int IntKind.i64 y.key.seq, Value.int IntKind.i64 y.to, Value.int IntKind.i64 y.value] = cev y from rfl, ← flatEv_snoc, show E.take k ++ [y] = E.take (k + 1) by rw [List.take_add_one, Hy.out]; rfl] at h1
     exact ownsRow_fr0 (ownsRow_fr0 h1 F68.out (fun _ _ h => h)) f89 (fun g hg => (hv6 g hg).2)
    have hQ9 : QIs W9 qb n T (E.drop (k + 1)) (qgrow fk wr w5) := HQ8.out.fr0 f89 (fun j hj e => by have := hfk j hj; omega)
    have hfr9 : Fr0 ft w W9 := by
     have g1 := Fw5.out.trans' F6.out (fun j hj hs => absurd (hr5.out.lt j hs).1 (Nat.not_le.2 hj))
     exact (g1.trans' F68.out (fun _ _ h => h.elim)).trans' f89 (fun j hj e => by omega)
    have hpre9 : ∀ u ∈ E.take (k + 1), u.key.time < t := fun u hu => by
     rw [List.take_add_one, Hy.out, List.mem_append] at hu
     rcases hu with hu | hu
     ·exact hpre.out u hu
     ·simp at hu; subst hu; exact Ht.out
    have hkl : k + 1 ≤ E.length := (List.getElem?_eq_some_iff.1 Hy.out).1
    obtain ⟨v6a, v6c, rfl, _, _⟩ := EsIn.of_own hrow9
    have R1 := Lib.hid hrow9
    have R2 := Lib.hid hQ9
    have R3 := Lib.hid hfr9
    have R4 := Lib.hid hpre9
    have R5 := Lib.hid (show (∀ j, qgrow fk wr w5 j → ft j ∨ w.heap.size ≤ j) ∧ ¬ qgrow fk wr w5 q6 ∧ w.heap.size ≤ q6 ∧ ∀ g, (Value.slice v6a (k + 1) v6c).ownBlock = some g → ¬ qgrow fk wr w5 g ∧ g ≠ q6 from ⟨fun j hj => by
     rcases hj with hj | hj
     ·exact hdis.out.1 j hj
     ·exact .inr (by omega), fun hh => by have := hfk q6 hh; omega, by omega, hv6⟩)
    clear hrow9 hQ9 hfr9 hpre9 hv6 f89 hW9 y0 y1 y2 y3 y4 t0 t1 t2 t3 t4 hfk
    go_roundw
    case rel => exact ⟨k + 1, q6, z, qgrow fk wr w5, b2, rfl, rfl, hkl, HZ, e9, R1, R4, R2, R5, R3⟩
    case measure => simp; omega
   ·have d1 : decide (y.key.time < t) = false := decide_eq_false ht
    obtain ⟨e1, e2⟩ := bef_cut H.out.good.1 (t := t) (k := k) hpre.out (fun u hu => by rw [Hy.out] at hu; cases hu; exact ht)
    have hl : (E.take k).length = k := by rw [List.length_take]; omega
    have R := Lib.hid (show BefPost w qb n T E ft t (.returned (.slice va k vc)) wr from ⟨_, fk, rfl, by rw [e1, hl]; exact hrow.out, by rw [e2]; exact hq.out, hdis.out.1, fun g hg => (hdis.out.2.2.2 g hg).1, hfr.out⟩)
    clear ht e1 e2 hl
    go_wp2_with fail
    go_ret
    exact R.out
  ·have hnone : E[k]? = none := List.getElem?_eq_none (by omega)
   have hdr : E.drop k = [] := List.drop_eq_nil_of_le (by omega)
   have hbo : false = bo := by have := hx.out.2; rw [hdr] at this; exact this
   subst hbo
   obtain ⟨e1, e2⟩ := bef_cut H.out.good.1 (t := t) (k := k) hpre.out (fun u hu => by rw [hnone] at hu; cases hu)
   have hl : (E.take k).length = k := by rw [List.length_take]; omega
   have R := Lib.hid (show BefPost w qb n T E ft t (.returned (.slice va k vc)) wr from ⟨_, fk, rfl, by rw [e1, hl]; exact hrow.out, by rw [e2]; exact hq.out, hdis.out.1, fun g hg => (hdis.out.2.2.2 g hg).1, hfr.out⟩)
   clear e1 e2 hl hnone hdr hx
   go_wp2_with fail
   go_ret
   exact R.out
end Go.Proofs.YtmcgipilopfgoaaGreat

/-
  The queue: Copy.
-/
namespace Go.Proofs.YtmcgipilopfgoaaGreat
open Go Go.RowKit Go.ChangeMaps
attribute [local go_sem ↓] Go.wp_at_zero Go.wp_at_succ
attribute [local go_sem] Oper.semAt_some wide_fn wide_depth wide_fnR wide_depthR
variable {w w' : World} {qb n T : Nat} {E : List Ev} {ft : Nat → Prop}

theorem QIs.ordered (h : QIs w qb n T E ft) (cb : Nat) (hbx : Box w cb (.pointer (some ⟨qb, 0, none⟩))) :
  ∃ rd : Nat → Prop, IterX0 Tryz.prog 69 #[.pointer (some ⟨cb, 0, none⟩)] (fun x : Ev => #[evV x]) E none' rd w ∧ ∀ k, rd k → k = cb ∨ ft k := by
 obtain ⟨sb, pb, hb, ba, eb, mb, hv, X, F, P, first, V, h1, rfl, h3, h4⟩ := h
 exact ⟨_, ordered_iter h1 cb hbx, fun k hk => hk.imp id (h3 k)⟩
theorem QIs.evs (h : QIs w qb n T E ft) : ∃ eb, w.cell? ⟨qb, 2, none⟩ = some (.slice (some ⟨eb, 0, none⟩) n n) ∧ ft qb := by
 obtain ⟨sb, pb, hb, ba, eb, mb, hv, X, F, P, first, V, h1, rfl, h3, h4⟩ := h
 exact ⟨eb, h1.c2, h3 _ (.inl rfl)⟩
theorem take_puts {E : List Ev} (h : AscE E) (ho : OnceE E) (k : Nat) : putsE (E.take k) [] = E.take k := asc_puts (asc_sub h (List.take_sublist _ _)) (once_sub ho (List.take_sublist _ _))
set_option maxRecDepth 100000 in
set_option maxHeartbeats 2000000 in
theorem QCopy_in (h : QIs w qb n T E ft) : CallsIn Fence.wide 0 Tryz.prog 31 #[.pointer (some ⟨qb, 0, none⟩)] w fun e w' => ∃ cb ft', e = .returned (.tuple #[.pointer (some ⟨cb, 0, none⟩), .int .i64 0]) ∧ QIs w' cb n E.length E ft' ∧ (∀ k, ft' k → w.heap.size ≤ k) ∧ Fr0 none' w w' := by
 have H := Lib.hid h
 have HG := Lib.hid h.good
 have HE := Lib.hid h.le
 clear h
 refine callsIn_of_wp_marks Tryz.func31 rfl trivial ?_ rfl
 simp only [Tryz.ntmps31, List.size_toArray, List.length_cons, List.length_nil, Nat.reduceAdd, Nat.reduceSub, Array.replicate_succ, Array.replicate_zero, List.push_toArray, List.append_toArray, List.nil_append, List.cons_append]
 gi_wp2_with fail
 refine (callsIn_wide.2 H.out.isnt).mono ?_
 rintro e w1 ⟨rfl, rfl⟩
 obtain ⟨eb, c2, hfq⟩ := H.out.evs
 gi_wp2_with fail
 clear c2
 refine (callsIn_wide.2 (QNew_is n HE.out.2 _)).mono ?_
 rintro e w2 ⟨qc, ftc, rfl, hq2, f2, hge⟩
 have HQ2 := Lib.hid hq2
 have F2 := Lib.hid f2
 have Hge := Lib.hid hge
 clear hq2 f2 hge
 gi_wp2_with fail
 obtain ⟨N0, hN0⟩ : ∃ N0, w2.heap.size = N0 := ⟨_, rfl⟩
 obtain ⟨W3, hW3⟩ : ∃ W, w2.alloc (.cells #[.pointer (some ⟨qc, 0, none⟩)] 35) = W := ⟨_, rfl⟩
 have Bc3 := Lib.hid (show Box W3 N0 (.pointer (some ⟨qc, 0, none⟩)) by rw [← hW3, ← hN0]; exact Box.new _ _ _)
 have F23 := Lib.hid (show Fr0 none' w2 W3 by rw [← hW3]; exact (Fr0.refl _ _).alloc _)
 have Hs3 := Lib.hid (show W3.heap.size = N0 + 1 by rw [← hW3, World.size_alloc, hN0])
 rw [hW3]
 try rw [hN0]
 have HN0 := Lib.hid hN0
 clear hW3 hN0
 refine (callsIn_wide.2 (ordered_any qb W3)).mono ?_
 rintro e w4 ⟨rfl, hw4⟩
 rw [Hs3.out]
 obtain ⟨W4, hW4⟩ : ∃ W, W3.alloc (.cells #[.pointer (some ⟨qb, 0, none⟩)] 35) = W := ⟨_, rfl⟩
 rw [hW4] at hw4
 subst hw4
 have F34 := Lib.hid (show Fr0 none' W3 w4 by rw [← hW4]; exact (Fr0.refl _ _).alloc _)
 have Bq4 := Lib.hid (show Box w4 (N0 + 1) (.pointer (some ⟨qb, 0, none⟩)) by rw [← hW4, ← Hs3.out]; exact Box.new _ _ _)
 have Hs4 := Lib.hid (show w4.heap.size = N0 + 2 by rw [← hW4, World.size_alloc, Hs3.out])
 have F4 := Lib.hid (show Fr0 none' w w4 from (F2.out.trans F23.out).trans F34.out)
 have H4 := Lib.hid (H.out.later F4.out)
 have HQ4 := Lib.hid (HQ2.out.later (F23.out.trans F34.out))
 have Bc4 := Lib.hid (Bc3.out.fr0 F34.out id)
 clear hW4
 obtain ⟨rd, it, hrd⟩ := H4.out.ordered (N0 + 1) Bq4.out
 have Hrd := Lib.hid hrd
 clear hrd
 gi_wp2_with fail
 have hN2 : w.heap.size ≤ N0 := by have := F2.out.size; have := HN0.out; omega
 have HN2 := Lib.hid hN2
 have hlf := H.out.lt
 refine wpIn_iterS0 (σ := Nat → Prop) (gf := 69) (lb := #[.pointer (some ⟨N0 + 1, 0, none⟩)]) rfl (by intro args w; rfl) it (Keep.refl _ _) (fun _ => rfl) (fun k hk => hk.elim) (fun k hk => by
   rw [Hs4.out]
   rcases Hrd.out k hk with rfl | h
   ·omega
   ·have := hlf k h; omega)
  (fun i s W => QIs W qc n i (E.take i) s ∧ Box W N0 (.pointer (some ⟨qc, 0, none⟩)) ∧ (∀ k, s k → w.heap.size ≤ k ∧ k ≠ N0 ∧ k ≠ N0 + 1) ∧ Fr0 none' w W) (fun s k => s k ∨ k = N0) (fun _ _ => False) ?hInv ?hlt (fun _ _ _ h _ => h.elim) ftc ?h0 ?hf0
  (fun x W a' => ∃ B, a' = { tmps := #[.pointer (some ⟨qb, 0, none⟩), undef, .pointer none, .int .i64 0, .pointer (some ⟨N0, 0, none⟩), .int .i64 0, .pointer (some ⟨B, 0, none⟩), .pointer (some ⟨qb, 0, none⟩), .bool false, .tuple #[.pointer (some ⟨qc, 0, none⟩), .int .i64 0], .pointer (some ⟨qb, 0, none⟩), .pointer (some ⟨qb, 0, none⟩), .pointer (some ⟨qb, 2, none⟩), .slice (some ⟨eb, 0, none⟩) n n, .int .i64 n, .tuple #[.pointer (some ⟨qc, 0, none⟩), .int .i64 0], .pointer (some ⟨qc, 0, none⟩), .int .i64 0, .int .i64 0, .bool false, undef, .pointer (some ⟨qb, 0, none⟩), .func (.func 69) #[] #[.pointer (some ⟨N0 + 1, 0, none⟩)], evV x, undef, undef, undef, undef], defers := [] } ∧ N0 + 3 < B ∧ W.heap[B]? = some (.cells (cev x).toArray 28 (0, 0)))
  ?assign ?keep ?body ?done (fun _ _ _ _ h _ => h.elim)
 case hInv =>
  rintro i s W1 W2 ⟨h1, h2, h3, h4⟩ hf
  rw [Hs4.out] at hf
  refine ⟨h1.fr0 hf (fun k hk hs => hs.2 (.inl hk)), h2.fr0 hf (fun hs => hs.2 (.inr rfl)), h3, h4.trans' hf (fun k hk hs => ?_)⟩
  rcases hs.1 with h | h
  ·exact h
  ·have := HN2.out; omega
 case hlt =>
  rintro i s W k ⟨h1, h2, h3, h4⟩ (hk | rfl)
  ·exact h1.lt k hk
  ·exact h2.lt
 case h0 =>
  refine ⟨HQ4.out, Bc4.out, fun k hk => ⟨Hge.out k hk, ?_⟩, F4.out⟩
  have := HQ2.out.lt k hk
  have := HN0.out
  omega
 case hf0 =>
  rintro k hk
  refine ⟨id, fun hr => ?_⟩
  have h1 : k ≠ N0 + 1 ∧ w.heap.size ≤ k := by
   rcases hk with hk | rfl
   ·have := HQ2.out.lt k hk
    have := HN0.out
    exact ⟨by omega, Hge.out k hk⟩
   ·exact ⟨by omega, HN2.out⟩
  rcases Hrd.out k hr with h | h
  ·exact h1.1 h
  ·have := hlf k h; omega
 case assign =>
  intro l x W K hlt hK
  rw [Hs4.out] at hlt
  simp only [evV]
  gi_wp2
  exact hK _ _ ⟨W.heap.size, by simp [evV], by omega, World.alloc_heap_new W _⟩ ((Fr0.refl _ _).alloc _)
 case keep =>
  rintro x W4 W5 a' ⟨B, rfl, hB, hc⟩ hf
  exact ⟨B, rfl, hB, (hf.block B (Array.getElem?_eq_some_iff.1 hc).1 (by rw [Hs4.out]; omega)).trans hc⟩
 case body =>
  rintro l i x s W a' hxi ⟨h1, h2, h3, h4⟩ hfoot hsz ⟨B, rfl, hB, hcB⟩
  have hlt : i < E.length := (List.getElem?_eq_some_iff.1 hxi).1
  have b0 := cells_in hcB 0
  have b1 := cells_in hcB 1
  have b2 := cells_in hcB 2
  have b3 := cells_in hcB 3
  have b4 := cells_in hcB 4
  simp [cev] at b0 b1 b2 b3 b4
  have cN := h2.cell
  have hsn : E.take (i + 1) = insE x (E.take i) := by
   rw [← take_puts HG.out.1 HG.out.2.1 (i + 1), List.take_add_one, hxi]
   show putsE (E.take i ++ [x]) [] = _
   rw [putsE_snoc, take_puts HG.out.1 HG.out.2.1 i]
  have hnm : ∀ y ∈ E.take i, y.name ≠ x.name := fun y hy e => by
   have h5 : OnceE (E.take (i + 1)) := once_sub HG.out.2.1 (List.take_sublist _ _)
   rw [List.take_add_one, hxi] at h5
   have h6 := OnceE.perm h5 List.perm_append_comm
   exact (once_cons.1 h6).1 y hy e
  have hre := HG.out.2.2 x (List.mem_of_getElem? hxi)
  have HPt := Lib.hid (h1.put hre hnm (by have := HE.out; omega) (by rw [List.length_take]; have := HE.out; omega))
  have Hsn := Lib.hid hsn
  have H1 := Lib.hid h1
  have H2 := Lib.hid h2
  have H3 := Lib.hid h3
  have H4' := Lib.hid h4
  have Hsz := Lib.hid hsz
  unfold evV at HPt
  clear hxi hfoot hsz hcB h1 h2 h3 h4 hsn hnm hre
  simp only [evV]
  gi_wp2_with fail
  refine (callsIn_wide.2 HPt.out).mono ?_
  rintro e w5 ⟨rfl, hq5, hf5⟩
  gi_wp2_with fail
  refine ⟨qgrow s W w5, ⟨by rw [Hsn.out]; exact hq5, ?_, fun k hk => ?_, ?_⟩, hf5.mono (fun _ _ hk => .inl hk), fun k hk => ?_⟩
  ·exact H2.out.fr0 hf5 (fun h => (H3.out N0 h).2.1 rfl)
  ·rcases hk with hk | hk
   ·exact H3.out k hk
   ·have g1 := H4'.out.size
    have g2 := Hsz.out
    rw [Hs4.out] at g2
    exact ⟨by omega, by omega, by omega⟩
  ·exact H4'.out.trans' hf5 (fun k hk h => absurd (H3.out k h).1 (Nat.not_le.2 hk))
  ·rcases hk with (hk | hk) | hk
   ·exact .inl (.inl hk)
   ·exact .inr hk.1
   ·exact .inl (.inr hk)
 case done =>
  rintro D s W hDe ⟨h1, h2, h3, h4⟩ hDf hK
  rw [Hs4.out] at hDe
  subst hDe
  have hc := h2.cell
  rw [List.take_length] at h1
  have hW : N0 + 2 < W.heap.size := (Array.getElem?_eq_some_iff.1 hK).1
  have hfp : Fr0 (fun k => k = N0 + 2) W (W.putObj (N0 + 2) (.deferred none)) := Fr0.putNew _ _ rfl
  have hfin := Lib.hid (show QIs (W.putObj (N0 + 2) (.deferred none)) qc n E.length E s ∧ (∀ k, s k → w.heap.size ≤ k) ∧ Fr0 none' w (W.putObj (N0 + 2) (.deferred none)) from ⟨h1.fr0 hfp (fun k hk e => hDf k (.inl hk) (by rw [e])), fun k hk => (h3 k hk).1, h4.trans' hfp (fun k hk e => by have := HN2.out; omega)⟩)
  have HK := Lib.hid hK
  clear h1 h2 h3 h4 hDf hK hfp it
  gi_wp2
  refine ⟨by simp, .inl ⟨_, _, rfl, run_takeDeferred HK.out, ?_⟩⟩
  refine ⟨_, results_tmp2 rfl _ _ _, qc, s, rfl, hfin.out⟩
/-- Copy, on a queue. -/
theorem QIs.copy (h : QIs w qb n T E ft) : Calls Tryz.prog 31 #[.pointer (some ⟨qb, 0, none⟩)] w fun e w' => ∃ cb ft', e = .returned (.tuple #[.pointer (some ⟨cb, 0, none⟩), .int .i64 0]) ∧ QIs w' cb n E.length E ft' ∧ (∀ k, ft' k → w.heap.size ≤ k) ∧ Fr0 none' w w' := callsIn_wide.1 (QCopy_in h)
end Go.Proofs.YtmcgipilopfgoaaGreat

/-
  The laws' helpers: filled.
-/
namespace Go.Proofs.YtmcgipilopfgoaaGreat
open Go Go.RowKit Go.ChangeMaps
attribute [local go_sem ↓] Go.wp_at_zero Go.wp_at_succ
attribute [local go_sem] Oper.semAt_some wide_fn wide_depth wide_fnR wide_depthR

end Go.Proofs.YtmcgipilopfgoaaGreat

/-
  A queue within a law: what stays around it. The example of the chapter.
-/
namespace Go.Proofs.YtmcgipilopfgoaaGreat
open Go Go.RowKit Go.ChangeMaps
attribute [local go_sem ↓] Go.wp_at_zero Go.wp_at_succ
attribute [local go_sem] Oper.semAt_some wide_fn wide_depth wide_fnR wide_depthR

/-- A queue within a law: its foot is new, and nothing old has changed. -/
def St (w W : World) (qb c T : Nat) (E : List Ev) (ft : Nat → Prop) : Prop := QIs W qb c T E ft ∧ Fr0 none' w W ∧ ∀ k, ft k → w.heap.size ≤ k
theorem St.later {w W W' : World} {qb c T : Nat} {E : List Ev} {ft : Nat → Prop} (h : St w W qb c T E ft) (hf : Fr0 none' W W') : St w W' qb c T E ft := ⟨h.1.later hf, h.2.1.trans hf, h.2.2⟩
theorem St.step {w W W' : World} {qb c T T' : Nat} {E E' : List Ev} {ft : Nat → Prop} (h : St w W qb c T E ft) (hq : QIs W' qb c T' E' (qgrow ft W W')) (hf : Fr0 ft W W') : St w W' qb c T' E' (qgrow ft W W') :=
 ⟨hq, h.2.1.trans' hf (fun i hi hs => by have := h.2.2 i hs; omega), fun k hk => hk.elim (h.2.2 k) (fun g => Nat.le_trans h.2.1.size g.1)⟩
theorem St.step2 {w W W' : World} {qb c T T' : Nat} {E E' : List Ev} {ft ft' : Nat → Prop} (h : St w W qb c T E ft) (hq : QIs W' qb c T' E' ft') (hs : ∀ k, ft' k → ft k ∨ W.heap.size ≤ k) (hf : Fr0 ft W W') : St w W' qb c T' E' ft' :=
 ⟨hq, h.2.1.trans' hf (fun i hi hs => by have := h.2.2 i hs; omega), fun k hk => (hs k hk).elim (h.2.2 k) (fun g => Nat.le_trans h.2.1.size g)⟩
theorem St.other {w W W' : World} {qb c T : Nat} {E : List Ev} {ft gt : Nat → Prop} (h : St w W qb c T E ft) (h2 : ∀ k, gt k → w.heap.size ≤ k) (hd : ∀ k, ft k → ¬ gt k) (hf : Fr0 gt W W') : St w W' qb c T E ft :=
 ⟨h.1.fr0 hf hd, h.2.1.trans' hf (fun i hi hs => by have := h2 i hs; omega), h.2.2⟩
theorem St.apart {w W : World} {qb c T : Nat} {E : List Ev} {ft gt gt' : Nat → Prop} (h : St w W qb c T E ft) (hd : ∀ k, ft k → ¬ gt k) (hs : ∀ k, gt' k → gt k ∨ W.heap.size ≤ k) : ∀ k, ft k → ¬ gt' k := fun k hk hg => (hs k hg).elim (hd k hk) (fun e => by have := h.1.lt k hk; omega)
/-- A block that a queue does not touch. -/
def KeptB (W : World) (b : Nat) (xs : List Value) (t : TypeId) (ft : Nat → Prop) : Prop := W.heap[b]? = some (.cells xs.toArray t (0, 0)) ∧ ¬ ft b
theorem KeptB.lt {W : World} {b : Nat} {xs : List Value} {t : TypeId} {ft : Nat → Prop} (h : KeptB W b xs t ft) : b < W.heap.size := (Array.getElem?_eq_some_iff.1 h.1).1
theorem KeptB.later {W W' : World} {b : Nat} {xs : List Value} {t : TypeId} {ft : Nat → Prop} (h : KeptB W b xs t ft) (hf : Fr0 none' W W') : KeptB W' b xs t ft := ⟨(hf.block b h.lt id).trans h.1, h.2⟩
theorem KeptB.step {W W' : World} {b : Nat} {xs : List Value} {t : TypeId} {ft : Nat → Prop} (h : KeptB W b xs t ft) (hf : Fr0 ft W W') : KeptB W' b xs t (qgrow ft W W') := ⟨(hf.block b h.lt h.2).trans h.1, fun hk => hk.elim h.2 (fun g => by have := h.lt; omega)⟩
theorem KeptB.step2 {W W' : World} {b : Nat} {xs : List Value} {t : TypeId} {ft ft' : Nat → Prop} (h : KeptB W b xs t ft) (hs : ∀ k, ft' k → ft k ∨ W.heap.size ≤ k) (hf : Fr0 ft W W') : KeptB W' b xs t ft' := ⟨(hf.block b h.lt h.2).trans h.1, fun hk => (hs b hk).elim h.2 (fun g => by have := h.lt; omega)⟩
/-- A row that a queue does not touch. -/
def KeptR (W : World) (base : Nat) (v : Value) (S : List Ev) (ft : Nat → Prop) : Prop := W.ownsRow base 28 5 v S.length (flatEv S) ∧ ∀ g, v.ownBlock = some g → ¬ ft g
theorem KeptR.later {W W' : World} {base : Nat} {v : Value} {S : List Ev} {ft : Nat → Prop} (h : KeptR W base v S ft) (hf : Fr0 none' W W') : KeptR W' base v S ft := ⟨ownsRow_fr0 h.1 hf (fun _ _ h => h), h.2⟩
theorem KeptR.step {W W' : World} {base : Nat} {v : Value} {S : List Ev} {ft : Nat → Prop} (h : KeptR W base v S ft) (hf : Fr0 ft W W') : KeptR W' base v S (qgrow ft W W') := ⟨ownsRow_fr0 h.1 hf h.2, fun g hg hk => hk.elim (h.2 g hg) (fun e => by have := (h.1.lt g hg).2; omega)⟩
theorem KeptR.step2 {W W' : World} {base : Nat} {v : Value} {S : List Ev} {ft ft' : Nat → Prop} (h : KeptR W base v S ft) (hs : ∀ k, ft' k → ft k ∨ W.heap.size ≤ k) (hf : Fr0 ft W W') : KeptR W' base v S ft' := ⟨ownsRow_fr0 h.1 hf h.2, fun g hg hk => (hs g hk).elim (h.2 g hg) (fun e => by have := (h.1.lt g hg).2; omega)⟩
theorem KeptR.right {W W' : World} {base : Nat} {v : Value} {S : List Ev} {ft gt gt' : Nat → Prop} (h : KeptR W base v S (fun k => ft k ∨ gt k)) (hs : ∀ k, gt' k → gt k ∨ W.heap.size ≤ k) (hf : Fr0 gt W W') : KeptR W' base v S (fun k => ft k ∨ gt' k) :=
 h.step2 (fun k hk => hk.elim (fun h => .inl (.inl h)) (fun h => (hs k h).elim (fun g => .inl (.inr g)) .inr)) (hf.mono (fun _ _ h => .inr h))
theorem KeptR.left {W W' : World} {base : Nat} {v : Value} {S : List Ev} {ft ft' gt : Nat → Prop} (h : KeptR W base v S (fun k => ft k ∨ gt k)) (hs : ∀ k, ft' k → ft k ∨ W.heap.size ≤ k) (hf : Fr0 ft W W') : KeptR W' base v S (fun k => ft' k ∨ gt k) :=
 h.step2 (fun k hk => hk.elim (fun h => (hs k h).elim (fun g => .inl (.inl g)) .inr) (fun h => .inl (.inr h))) (hf.mono (fun _ _ h => .inl h))
theorem KeptR.slice {W : World} {base : Nat} {v : Value} {S : List Ev} {ft : Nat → Prop} (h : KeptR W base v S ft) : ∃ va vc, v = .slice va S.length vc ∧ EsIn W va S := by
 obtain ⟨va, vc, h1, _, h3⟩ := EsIn.of_own h.1
 exact ⟨va, vc, h1, h3⟩
def evA : Ev := ⟨⟨5, 1, 0⟩, 1, 0⟩
def evB : Ev := ⟨⟨3, 2, 0⟩, 1, 0⟩
def evC : Ev := ⟨⟨9, 1, 0⟩, 1, 0⟩
def evD : Ev := ⟨⟨4, 1, 1⟩, 1, 0⟩
def evF : Ev := ⟨⟨4, 1, 2⟩, 1, 0⟩
theorem awake_t1 : allV 2 [] [evA] = (-1, 0) ∧ allE 2 [] [evA] = [evA] := by decide
theorem awake_t2 : allV 2 [evA] [evB] = (-1, 0) ∧ allE 2 [evA] [evB] = [evB, evA] := by decide
theorem awake_t3 : (allV 2 [evB, evA] [evC]).2 = 101 ∧ allE 2 [evB, evA] [evC] = [evB, evA] := by decide
theorem awake_t4 : (allV 2 [evB, evA] [evD]).2 = 4 ∧ allE 2 [evB, evA] [evD] = [evB, evA] := by decide
theorem awake_t5 : allV 2 [evA] [evD, evD] = (1, 101) ∧ allE 2 [evA] [evD, evD] = [evA] := by decide
theorem awake_t6 : allV 2 [evA] [evD, evF] = (-1, 4) ∧ allE 2 [evA] [evD, evF] = [evA] := by decide
set_option maxRecDepth 100000 in
set_option maxHeartbeats 4000000 in
theorem awake_any (w : World) : Calls Tryz.prog 7 #[] w fun e w' => e = .returned (.bool true) ∧ Fr0 none' w w' := by
 have HN := Lib.hid (QNew_is 2 (by omega) w)
 go_enter Tryz.func7, Tryz.ntmps7
 go_wp2_with fail
 refine HN.out.mono ?_
 rintro e w1 ⟨qb, ft, rfl, hq1, f1, hge⟩
 have H := Lib.hid (show St w w1 qb 2 0 [] ft from ⟨hq1, f1, hge⟩)
 clear hq1 f1 hge HN
 go_wp2_with fail
 refine (at_any 5 1 0 _).mono ?_
 rintro e wA ⟨rfl, hfA⟩
 have H := Lib.hid (H.out.later hfA)
 clear hfA
 simp only [evV]
 go_wp2_with fail
 have HP := H.out.1.put1 evA (by omega)
 rw [awake_t1.1, awake_t1.2] at HP
 refine HP.mono ?_
 rintro e wB ⟨rfl, hq, hf⟩
 have H := Lib.hid (H.out.step hq hf)
 clear hq hf HP
 go_wp2_with fail
 refine (at_any 3 2 0 _).mono ?_
 rintro e wA ⟨rfl, hfA⟩
 have H := Lib.hid (H.out.later hfA)
 clear hfA
 simp only [evV]
 go_wp2_with fail
 have HP := H.out.1.put1 evB (by omega)
 rw [awake_t2.1, awake_t2.2] at HP
 refine HP.mono ?_
 rintro e wB ⟨rfl, hq, hf⟩
 have H := Lib.hid (H.out.step hq hf)
 clear hq hf HP
 go_wp2_with fail
 refine (at_any 9 1 0 _).mono ?_
 rintro e wA ⟨rfl, hfA⟩
 have H := Lib.hid (H.out.later hfA)
 clear hfA
 simp only [evV]
 go_wp2_with fail
 have HP := H.out.1.put1 evC (by omega)
 rw [awake_t3.1, awake_t3.2] at HP
 refine HP.mono ?_
 rintro e wB ⟨rfl, hq, hf⟩
 have H := Lib.hid (H.out.step hq hf)
 clear hq hf HP
 go_wp2_with fail
 refine (at_any 4 1 1 _).mono ?_
 rintro e wA ⟨rfl, hfA⟩
 have H := Lib.hid (H.out.later hfA)
 clear hfA
 simp only [evV]
 go_wp2_with fail
 have HP := H.out.1.put1 evD (by omega)
 rw [awake_t4.1, awake_t4.2] at HP
 refine HP.mono ?_
 rintro e wB ⟨rfl, hq, hf⟩
 have H := Lib.hid (H.out.step hq hf)
 clear hq hf HP
 go_wp2_with fail
 refine (show Calls Tryz.prog 23 _ _ (fun e w' => e = .returned (.tuple #[evV evB, .bool true]) ∧ Fr0 none' wB w') from H.out.1.least).mono ?_
 rintro e wC ⟨rfl, hfC⟩
 have H := Lib.hid (H.out.later hfC)
 clear hfC
 simp only [evV, evB]
 go_wp2_with fail
 obtain ⟨xb, hxb⟩ : ∃ xb, wC.heap.size = xb := ⟨_, rfl⟩
 obtain ⟨W, hW⟩ : ∃ W, wC.alloc (.cells #[.int .i64 3, .int .i64 2, .int .i64 0, .int .i64 1, .int .i64 0] 28) = W := ⟨_, rfl⟩
 have FW : Fr0 none' wC W := by rw [← hW]; exact (Fr0.refl _ _).alloc _
 have HX := Lib.hid (show KeptB W xb (cev evB) 28 _ from ⟨by rw [← hW, ← hxb]; exact World.alloc_heap_new wC _, fun hk => by have := H.out.1.lt xb hk; omega⟩)
 have H := Lib.hid (H.out.later FW)
 rw [hW]
 try rw [hxb]
 clear hW hxb FW
 refine (H.out.1.takeBefore 5 (by omega)).mono ?_
 rintro e wD ⟨l, ft', rfl, hr, hq, hs, hd, hf⟩
 rw [show befE 5 [evB, evA] = [evB] by decide] at hr
 rw [show aftE 5 [evB, evA] = [evA] by decide] at hq
 have HX := Lib.hid (HX.out.step2 hs hf)
 have H := Lib.hid (H.out.step2 hq hs hf)
 have HR := Lib.hid (show KeptR wD _ l [evB] ft' from ⟨hr, hd⟩)
 clear hr hq hs hd hf
 go_wp2_with fail
 refine (show Calls Tryz.prog 25 _ _ (fun e w' => e = .returned (.int .i64 1) ∧ Fr0 none' wD w') from H.out.1.room).mono ?_
 rintro e wE ⟨rfl, hf⟩
 have H := Lib.hid (H.out.later hf)
 have HX := Lib.hid (HX.out.later hf)
 have HR := Lib.hid (HR.out.later hf)
 clear hf
 go_wp2_with fail
 refine (at_any 4 1 1 _).mono ?_
 rintro e wF ⟨rfl, hf⟩
 have H := Lib.hid (H.out.later hf)
 have HX := Lib.hid (HX.out.later hf)
 have HR := Lib.hid (HR.out.later hf)
 clear hf
 simp only [evV]
 go_wp2_with fail
 refine (at_any 4 1 1 _).mono ?_
 rintro e wF ⟨rfl, hf⟩
 have H := Lib.hid (H.out.later hf)
 have HX := Lib.hid (HX.out.later hf)
 have HR := Lib.hid (HR.out.later hf)
 clear hf
 simp only [evV]
 go_wp2_with fail
 obtain ⟨qx, hqx⟩ : ∃ qx, wF.heap.size = qx := ⟨_, rfl⟩
 obtain ⟨W, hW⟩ : ∃ W, wF.alloc (.cells #[.int .i64 4, .int .i64 1, .int .i64 1, .int .i64 1, .int .i64 0, .int .i64 4, .int .i64 1, .int .i64 1, .int .i64 1, .int .i64 0] 28) = W := ⟨_, rfl⟩
 rw [hW]
 try rw [hqx]
 have FW : Fr0 none' wF W := by rw [← hW]; exact (Fr0.refl _ _).alloc _
 have hl : EsIn W (some ⟨qx, 0, none⟩) [evD, evD] := by rw [← hW, ← hqx]; exact EsIn.of_cells (n := 2) (World.alloc_heap_new _ _) (by simp [flatEv, cev, evD, evD])
 have hlt := H.out.1.lt
 have H := Lib.hid (H.out.later FW)
 have HX := Lib.hid (HX.out.later FW)
 have HR := Lib.hid (HR.out.later FW)
 clear hW FW
 have HP := H.out.1.putAll (m := 2) (cap := 2) [evD, evD] hl rfl (by omega) (by omega) (fun g o s e hk => by
  injection e with e
  injection e with e
  have := hlt g hk
  omega)
 rw [awake_t5.1, awake_t5.2] at HP
 refine HP.mono ?_
 rintro e wH ⟨rfl, hq, hf⟩
 have HX := Lib.hid (HX.out.step hf)
 have HR := Lib.hid (HR.out.step hf)
 have H := Lib.hid (H.out.step hq hf)
 clear hq hf HP hl hlt hqx
 go_wp2_with fail
 refine (at_any 4 1 1 _).mono ?_
 rintro e wF ⟨rfl, hf⟩
 have H := Lib.hid (H.out.later hf)
 have HX := Lib.hid (HX.out.later hf)
 have HR := Lib.hid (HR.out.later hf)
 clear hf
 simp only [evV]
 go_wp2_with fail
 refine (at_any 4 1 2 _).mono ?_
 rintro e wF ⟨rfl, hf⟩
 have H := Lib.hid (H.out.later hf)
 have HX := Lib.hid (HX.out.later hf)
 have HR := Lib.hid (HR.out.later hf)
 clear hf
 simp only [evV]
 go_wp2_with fail
 obtain ⟨qx, hqx⟩ : ∃ qx, wF.heap.size = qx := ⟨_, rfl⟩
 obtain ⟨W, hW⟩ : ∃ W, wF.alloc (.cells #[.int .i64 4, .int .i64 1, .int .i64 1, .int .i64 1, .int .i64 0, .int .i64 4, .int .i64 1, .int .i64 2, .int .i64 1, .int .i64 0] 28) = W := ⟨_, rfl⟩
 rw [hW]
 try rw [hqx]
 have FW : Fr0 none' wF W := by rw [← hW]; exact (Fr0.refl _ _).alloc _
 have hl : EsIn W (some ⟨qx, 0, none⟩) [evD, evF] := by rw [← hW, ← hqx]; exact EsIn.of_cells (n := 2) (World.alloc_heap_new _ _) (by simp [flatEv, cev, evD, evF])
 have hlt := H.out.1.lt
 have H := Lib.hid (H.out.later FW)
 have HX := Lib.hid (HX.out.later FW)
 have HR := Lib.hid (HR.out.later FW)
 clear hW FW
 have HP := H.out.1.putAll (m := 2) (cap := 2) [evD, evF] hl rfl (by omega) (by omega) (fun g o s e hk => by
  injection e with e
  injection e with e
  have := hlt g hk
  omega)
 rw [awake_t6.1, awake_t6.2] at HP
 refine HP.mono ?_
 rintro e wH ⟨rfl, hq, hf⟩
 have HX := Lib.hid (HX.out.step hf)
 have HR := Lib.hid (HR.out.step hf)
 have H := Lib.hid (H.out.step hq hf)
 clear hq hf HP hl hlt hqx
 go_wp2_with fail
 have HC := H.out.1.cancel (nm := (1, 0)) ⟨by decide, by decide⟩ ⟨by decide, by decide⟩ (by omega)
 rw [show findE (1, 0) [evA] = some evA by decide, show delE (1, 0) [evA] = [] by decide] at HC
 simp only [Option.getD_some, Option.isSome_some, if_true, evV, evA] at HC
 refine HC.mono ?_
 rintro e wK ⟨rfl, hq, hf⟩
 have HX := Lib.hid (HX.out.step hf)
 have HR := Lib.hid (HR.out.step hf)
 have H := Lib.hid (H.out.step hq hf)
 clear hq hf HC
 go_wp2_with fail
 obtain ⟨yb, hyb⟩ : ∃ yb, wK.heap.size = yb := ⟨_, rfl⟩
 obtain ⟨W, hW⟩ : ∃ W, wK.alloc (.cells #[.int .i64 5, .int .i64 1, .int .i64 0, .int .i64 1, .int .i64 0] 28) = W := ⟨_, rfl⟩
 have FW : Fr0 none' wK W := by rw [← hW]; exact (Fr0.refl _ _).alloc _
 have HY := Lib.hid (show KeptB W yb (cev evA) 28 _ from ⟨by rw [← hW, ← hyb]; exact World.alloc_heap_new wK _, fun hk => by have := H.out.1.lt yb hk; omega⟩)
 have H := Lib.hid (H.out.later FW)
 have HX := Lib.hid (HX.out.later FW)
 have HR := Lib.hid (HR.out.later FW)
 rw [hW]
 try rw [hyb]
 clear hW hyb FW
 have HT := H.out.1.take (by omega)
 rw [if_pos rfl] at HT
 refine HT.mono ?_
 rintro e wL ⟨rfl, hq, hf⟩
 have HX := Lib.hid (HX.out.step hf)
 have HY := Lib.hid (HY.out.step hf)
 have HR := Lib.hid (HR.out.step hf)
 have FL := Lib.hid (H.out.step hq hf).2.1
 clear hq hf HT
 simp only [lstE, zeroEv, evV]
 have x0 := cells_in HX.out.1 0
 have x1 := cells_in HX.out.1 1
 have x2 := cells_in HX.out.1 2
 have x3 := cells_in HX.out.1 3
 have x4 := cells_in HX.out.1 4
 simp [cev, evB] at x0 x1 x2 x3 x4
 go_wp2_with fail
 obtain ⟨V0, hV0⟩ : ∃ V, wL.alloc (.cells #[.int .i64 0, .int .i64 0, .int .i64 0, .int .i64 0, .int .i64 0] 28) = V := ⟨_, rfl⟩
 have FV : Fr0 none' wL V0 := by rw [← hV0]; exact (Fr0.refl _ _).alloc _
 rw [hV0]
 have HX := Lib.hid (HX.out.later FV)
 have HY := Lib.hid (HY.out.later FV)
 have HR := Lib.hid (HR.out.later FV)
 have FV := Lib.hid (FL.out.trans FV)
 clear hV0 x0 x1 x2 x3 x4
 have hX := Lib.hid (fun (W' : World) (hf : Fr0 none' V0 W') => (HX.out.later hf).1)
 have hY := Lib.hid (fun (W' : World) (hf : Fr0 none' V0 W') => (HY.out.later hf).1)
 simp only [cev, evA, evB] at hX hY
 obtain ⟨va, vc, rfl, hva⟩ := HR.out.slice
 have Hva := Lib.hid hva
 clear hva
 refine wp_region_held_drew (S := fun W' => Fr0 none' V0 W') (by kernel_rfl) ((Fr0.refl none' V0).drew) (fun hHeld => ?_)
 refine tkn (i := 0) (v := .int .i64 0) (fun W' hSW => ?_) ?_
 ·first | (go_simp; done) | exact rfl | (go_simp; rfl) | (go_simp; omega)
 try simp only [pUt, pUn, sEt, sEz, sEs]
 refine tkn (i := 1) (v := .int .i64 0) (fun W' hSW => ?_) ?_
 ·first | (go_simp; done) | exact rfl | (go_simp; rfl) | (go_simp; omega)
 try simp only [pUt, pUn, sEt, sEz, sEs]
 refine tkn (i := 2) (v := .int .i64 0) (fun W' hSW => ?_) ?_
 ·first | (go_simp; done) | exact rfl | (go_simp; rfl) | (go_simp; omega)
 try simp only [pUt, pUn, sEt, sEz, sEs]
 refine tkn (i := 3) (v := .int .i64 0) (fun W' hSW => ?_) ?_
 ·first | (go_simp; done) | exact rfl | (go_simp; rfl) | (go_simp; omega)
 try simp only [pUt, pUn, sEt, sEz, sEs]
 refine tkn (i := 4) (v := .int .i64 0) (fun W' hSW => ?_) ?_
 ·first | (go_simp; done) | exact rfl | (go_simp; rfl) | (go_simp; omega)
 try simp only [pUt, pUn, sEt, sEz, sEs]
 refine tkn (i := 5) (v := .bool true) (fun W' hSW => ?_) ?_
 ·first | (go_simp; done) | exact rfl | (go_simp; rfl) | (go_simp; omega)
 try simp only [pUt, pUn, sEt, sEz, sEs]
 refine tkn (i := 6) (v := .bool true) (fun W' hSW => ?_) ?_
 ·first | (go_simp; done) | exact rfl | (go_simp; rfl) | (go_simp; omega)
 try simp only [pUt, pUn, sEt, sEz, sEs]
 refine tkn (i := 7) (v := .int .i64 101) (fun W' hSW => ?_) ?_
 ·first | (go_simp; done) | exact rfl | (go_simp; rfl) | (go_simp; omega)
 try simp only [pUt, pUn, sEt, sEz, sEs]
 refine tkn (i := 8) (v := .bool true) (fun W' hSW => ?_) ?_
 ·first | (go_simp; done) | exact rfl | (go_simp; rfl) | (go_simp; omega)
 try simp only [pUt, pUn, sEt, sEz, sEs]
 refine tkn (i := 9) (v := .bool true) (fun W' hSW => ?_) ?_
 ·first | (go_simp; done) | exact rfl | (go_simp; rfl) | (go_simp; omega)
 try simp only [pUt, pUn, sEt, sEz, sEs]
 refine tkn (i := 10) (v := .bool true) (fun W' hSW => ?_) ?_
 ·first | (go_simp; done) | exact rfl | (go_simp; rfl) | (go_simp; omega)
 try simp only [pUt, pUn, sEt, sEz, sEs]
 refine tkn (i := 11) (v := .int .i64 4) (fun W' hSW => ?_) ?_
 ·first | (go_simp; done) | exact rfl | (go_simp; rfl) | (go_simp; omega)
 try simp only [pUt, pUn, sEt, sEz, sEs]
 refine tkn (i := 12) (v := .bool true) (fun W' hSW => ?_) ?_
 ·first | (go_simp; done) | exact rfl | (go_simp; rfl) | (go_simp; omega)
 try simp only [pUt, pUn, sEt, sEz, sEs]
 refine tkn (i := 13) (v := .bool true) (fun W' hSW => ?_) ?_
 ·first | (go_simp; done) | exact rfl | (go_simp; rfl) | (go_simp; omega)
 try simp only [pUt, pUn, sEt, sEz, sEs]
 refine tkn (i := 14) (v := .bool true) (fun W' hSW => ?_) ?_
 ·first | (go_simp; done) | exact rfl | (go_simp; rfl) | (go_simp; omega)
 try simp only [pUt, pUn, sEt, sEz, sEs]
 refine tkn (i := 15) (v := evV evB) (fun W' hSW => ?_) ?_
 ·have hb := hX.out W' hSW
  have x0 := cells_in hb 0
  have x1 := cells_in hb 1
  have x2 := cells_in hb 2
  have x3 := cells_in hb 3
  have x4 := cells_in hb 4
  simp at x0 x1 x2 x3 x4
  clear hb
  first | (go_simp; done) | exact rfl | (go_simp; rfl) | (go_simp; omega)
 try simp only [pUt, pUn, sEt, sEz, sEs]
 refine take_call (i := 16) rfl (by kernel_rfl) (by kernel_rfl) (fun K hK => ?_)
 go_simp
 refine (at_any 3 2 0 _).mono ?_
 rintro e wA ⟨rfl, hfA⟩
 have FA := Lib.hid (hHeld.trans hfA)
 clear hfA
 simp only [evV]
 go_wp2_with fail
 refine hK.out _ _ FA.out (fun hHeld => ?_)
 clear hK K
 try simp only [pUt, pUn, sEt, sEz, sEs]
 refine tkn (i := 17) (v := .bool true) (fun W' hSW => ?_) ?_
 ·first | (go_simp; done) | exact rfl | (go_simp; rfl) | (go_simp; omega)
 try simp only [pUt, pUn, sEt, sEz, sEs]
 refine tkn (i := 18) (v := .bool true) (fun W' hSW => ?_) ?_
 ·first | (go_simp; done) | exact rfl | (go_simp; rfl) | (go_simp; omega)
 try simp only [pUt, pUn, sEt, sEz, sEs]
 refine tkn (i := 19) (v := .bool true) (fun W' hSW => ?_) ?_
 ·first | (go_simp; done) | exact rfl | (go_simp; rfl) | (go_simp; omega)
 try simp only [pUt, pUn, sEt, sEz, sEs]
 refine tkn (i := 20) (v := .bool true) (fun W' hSW => ?_) ?_
 ·first | (go_simp; done) | exact rfl | (go_simp; rfl) | (go_simp; omega)
 try simp only [pUt, pUn, sEt, sEz, sEs]
 refine tkn (i := 21) (v := .bool true) (fun W' hSW => ?_) ?_
 ·first | (go_simp; done) | exact rfl | (go_simp; rfl) | (go_simp; omega)
 try simp only [pUt, pUn, sEt, sEz, sEs]
 refine tkn (i := 22) (v := .bool true) (fun W' hSW => ?_) ?_
 ·first | (go_simp; done) | exact rfl | (go_simp; rfl) | (go_simp; omega)
 try simp only [pUt, pUn, sEt, sEz, sEs]
 refine tkn (i := 23) (v := .slice va 1 vc) (fun W' hSW => ?_) ?_
 ·first | (go_simp; done) | exact rfl | (go_simp; rfl) | (go_simp; omega)
 try simp only [pUt, pUn, sEt, sEz, sEs]
 refine take_call (i := 24) rfl (by kernel_rfl) (by kernel_rfl) (fun K hK => ?_)
 go_simp
 refine (at_any 3 2 0 _).mono ?_
 rintro e wA ⟨rfl, hfA⟩
 have FA := Lib.hid (hHeld.trans hfA)
 clear hfA
 simp only [evV]
 go_wp2_with fail
 refine hK.out _ _ FA.out (fun hHeld => ?_)
 clear hK K
 try simp only [pUt, pUn, sEt, sEz, sEs]
 refine take_call (i := 25) rfl (by kernel_rfl) (by kernel_rfl) (fun K hK => ?_)
 go_simp
 obtain ⟨W2, hW2⟩ : ∃ W2, (wA.alloc (.cells #[.int .i64 3, .int .i64 2, .int .i64 0, .int .i64 1, .int .i64 0] 28)) = W2 := ⟨_, rfl⟩
 have hl2 := Lib.hid (show EsIn W2 (some ⟨wA.heap.size, 0, none⟩) [evB] by rw [← hW2]; exact EsIn.of_cells (n := 1) (World.alloc_heap_new _ _) (by simp [flatEv, cev, evB]))
 have F2 := Lib.hid (hHeld.trans (show Fr0 none' wA W2 by rw [← hW2]; exact (Fr0.refl _ _).alloc _))
 have hl1 := Lib.hid (Hva.out.later F2.out)
 rw [hW2]
 clear hW2
 refine hK.out _ _ F2.out (fun hHeld => ?_)
 clear hK K
 try simp only [pUt, pUn, sEt, sEz, sEs]
 refine take_call (i := 26) rfl (by kernel_rfl) (by kernel_rfl) (fun K hK => ?_)
 go_simp
 have HS := sameEs_any va (some ⟨wA.heap.size, 0, none⟩) 1 1 vc 1 [evB] [evB] W2 rfl rfl (by omega) (by omega) hl1.out hl2.out
 rw [show decide (([evB] : List Ev) = [evB]) = true by decide] at HS
 refine HS.mono ?_
 rintro e wA ⟨rfl, hfA⟩
 have FA := Lib.hid (hHeld.trans hfA)
 clear hfA HS hl1 hl2
 go_wp2_with fail
 refine hK.out _ _ FA.out (fun hHeld => ?_)
 clear hK K
 try simp only [pUt, pUn, sEt, sEz, sEs]
 refine tkn (i := 27) (v := .bool true) (fun W' hSW => ?_) ?_
 ·first | (go_simp; done) | exact rfl | (go_simp; rfl) | (go_simp; omega)
 try simp only [pUt, pUn, sEt, sEz, sEs]
 refine tkn (i := 28) (v := .bool true) (fun W' hSW => ?_) ?_
 ·first | (go_simp; done) | exact rfl | (go_simp; rfl) | (go_simp; omega)
 try simp only [pUt, pUn, sEt, sEz, sEs]
 refine tkn (i := 29) (v := .int .i64 1) (fun W' hSW => ?_) ?_
 ·first | (go_simp; done) | exact rfl | (go_simp; rfl) | (go_simp; omega)
 try simp only [pUt, pUn, sEt, sEz, sEs]
 refine tkn (i := 30) (v := .bool true) (fun W' hSW => ?_) ?_
 ·first | (go_simp; done) | exact rfl | (go_simp; rfl) | (go_simp; omega)
 try simp only [pUt, pUn, sEt, sEz, sEs]
 refine tkn (i := 31) (v := .bool true) (fun W' hSW => ?_) ?_
 ·first | (go_simp; done) | exact rfl | (go_simp; rfl) | (go_simp; omega)
 try simp only [pUt, pUn, sEt, sEz, sEs]
 refine tkn (i := 32) (v := .bool true) (fun W' hSW => ?_) ?_
 ·first | (go_simp; done) | exact rfl | (go_simp; rfl) | (go_simp; omega)
 try simp only [pUt, pUn, sEt, sEz, sEs]
 refine tkn (i := 33) (v := .int .i64 1) (fun W' hSW => ?_) ?_
 ·first | (go_simp; done) | exact rfl | (go_simp; rfl) | (go_simp; omega)
 try simp only [pUt, pUn, sEt, sEz, sEs]
 refine tkn (i := 34) (v := .bool true) (fun W' hSW => ?_) ?_
 ·first | (go_simp; done) | exact rfl | (go_simp; rfl) | (go_simp; omega)
 try simp only [pUt, pUn, sEt, sEz, sEs]
 refine tkn (i := 35) (v := .bool true) (fun W' hSW => ?_) ?_
 ·first | (go_simp; done) | exact rfl | (go_simp; rfl) | (go_simp; omega)
 try simp only [pUt, pUn, sEt, sEz, sEs]
 refine tkn (i := 36) (v := .bool true) (fun W' hSW => ?_) ?_
 ·first | (go_simp; done) | exact rfl | (go_simp; rfl) | (go_simp; omega)
 try simp only [pUt, pUn, sEt, sEz, sEs]
 refine tkn (i := 37) (v := .int .i64 101) (fun W' hSW => ?_) ?_
 ·first | (go_simp; done) | exact rfl | (go_simp; rfl) | (go_simp; omega)
 try simp only [pUt, pUn, sEt, sEz, sEs]
 refine tkn (i := 38) (v := .bool true) (fun W' hSW => ?_) ?_
 ·first | (go_simp; done) | exact rfl | (go_simp; rfl) | (go_simp; omega)
 try simp only [pUt, pUn, sEt, sEz, sEs]
 refine tkn (i := 39) (v := .bool true) (fun W' hSW => ?_) ?_
 ·first | (go_simp; done) | exact rfl | (go_simp; rfl) | (go_simp; omega)
 try simp only [pUt, pUn, sEt, sEz, sEs]
 refine tkn (i := 40) (v := .bool true) (fun W' hSW => ?_) ?_
 ·first | (go_simp; done) | exact rfl | (go_simp; rfl) | (go_simp; omega)
 try simp only [pUt, pUn, sEt, sEz, sEs]
 refine tkn (i := 41) (v := .int .i64 (-1)) (fun W' hSW => ?_) ?_
 ·first | (go_simp; done) | exact rfl | (go_simp; rfl) | (go_simp; omega)
 try simp only [pUt, pUn, sEt, sEz, sEs]
 refine tkn (i := 42) (v := .bool true) (fun W' hSW => ?_) ?_
 ·first | (go_simp; done) | exact rfl | (go_simp; rfl) | (go_simp; omega)
 try simp only [pUt, pUn, sEt, sEz, sEs]
 refine tkn (i := 43) (v := .bool true) (fun W' hSW => ?_) ?_
 ·first | (go_simp; done) | exact rfl | (go_simp; rfl) | (go_simp; omega)
 try simp only [pUt, pUn, sEt, sEz, sEs]
 refine tkn (i := 44) (v := .bool true) (fun W' hSW => ?_) ?_
 ·first | (go_simp; done) | exact rfl | (go_simp; rfl) | (go_simp; omega)
 try simp only [pUt, pUn, sEt, sEz, sEs]
 refine tkn (i := 45) (v := .int .i64 4) (fun W' hSW => ?_) ?_
 ·first | (go_simp; done) | exact rfl | (go_simp; rfl) | (go_simp; omega)
 try simp only [pUt, pUn, sEt, sEz, sEs]
 refine tkn (i := 46) (v := .bool true) (fun W' hSW => ?_) ?_
 ·first | (go_simp; done) | exact rfl | (go_simp; rfl) | (go_simp; omega)
 try simp only [pUt, pUn, sEt, sEz, sEs]
 refine tkn (i := 47) (v := .bool true) (fun W' hSW => ?_) ?_
 ·first | (go_simp; done) | exact rfl | (go_simp; rfl) | (go_simp; omega)
 try simp only [pUt, pUn, sEt, sEz, sEs]
 refine tkn (i := 48) (v := .bool true) (fun W' hSW => ?_) ?_
 ·first | (go_simp; done) | exact rfl | (go_simp; rfl) | (go_simp; omega)
 try simp only [pUt, pUn, sEt, sEz, sEs]
 refine tkn (i := 49) (v := evV evA) (fun W' hSW => ?_) ?_
 ·have hb := hY.out W' hSW
  have x0 := cells_in hb 0
  have x1 := cells_in hb 1
  have x2 := cells_in hb 2
  have x3 := cells_in hb 3
  have x4 := cells_in hb 4
  simp at x0 x1 x2 x3 x4
  clear hb
  first | (go_simp; done) | exact rfl | (go_simp; rfl) | (go_simp; omega)
 try simp only [pUt, pUn, sEt, sEz, sEs]
 refine take_call (i := 50) rfl (by kernel_rfl) (by kernel_rfl) (fun K hK => ?_)
 go_simp
 refine (at_any 5 1 0 _).mono ?_
 rintro e wA ⟨rfl, hfA⟩
 have FA := Lib.hid (hHeld.trans hfA)
 clear hfA
 simp only [evV]
 go_wp2_with fail
 refine hK.out _ _ FA.out (fun hHeld => ?_)
 clear hK K
 try simp only [pUt, pUn, sEt, sEz, sEs]
 refine tkn (i := 51) (v := .bool true) (fun W' hSW => ?_) ?_
 ·first | (go_simp; done) | exact rfl | (go_simp; rfl) | (go_simp; omega)
 try simp only [pUt, pUn, sEt, sEz, sEs]
 refine tkn (i := 52) (v := .bool true) (fun W' hSW => ?_) ?_
 ·first | (go_simp; done) | exact rfl | (go_simp; rfl) | (go_simp; omega)
 try simp only [pUt, pUn, sEt, sEz, sEs]
 refine tkn (i := 53) (v := .bool true) (fun W' hSW => ?_) ?_
 ·first | (go_simp; done) | exact rfl | (go_simp; rfl) | (go_simp; omega)
 try simp only [pUt, pUn, sEt, sEz, sEs]
 refine tkn (i := 54) (v := .int .i64 6) (fun W' hSW => ?_) ?_
 ·first | (go_simp; done) | exact rfl | (go_simp; rfl) | (go_simp; omega)
 try simp only [pUt, pUn, sEt, sEz, sEs]
 refine tkn (i := 55) (v := .bool true) (fun W' hSW => ?_) ?_
 ·first | (go_simp; done) | exact rfl | (go_simp; rfl) | (go_simp; omega)
 try simp only [pUt, pUn, sEt, sEz, sEs]
 refine tkn (i := 56) (v := .bool true) (fun W' hSW => ?_) ?_
 ·first | (go_simp; done) | exact rfl | (go_simp; rfl) | (go_simp; omega)
 try simp only [pUt, pUn, sEt, sEz, sEs]
 refine tkn (i := 57) (v := .bool true) (fun W' hSW => ?_) ?_
 ·first | (go_simp; done) | exact rfl | (go_simp; rfl) | (go_simp; omega)
 try simp only [pUt, pUn, sEt, sEz, sEs]
 refine wpAnyH_done (by kernel_rfl) ?_ _
 have hfin := FV.out.trans hHeld
 go_wp2
 go_ret
 exact ⟨rfl, hfin⟩
end Go.Proofs.YtmcgipilopfgoaaGreat

/-
  The queue: From.
-/
namespace Go.Proofs.YtmcgipilopfgoaaGreat
open Go Go.RowKit Go.ChangeMaps
attribute [local go_sem ↓] Go.wp_at_zero Go.wp_at_succ
attribute [local go_sem] Oper.semAt_some wide_fn wide_depth wide_fnR wide_depthR
variable {w w' : World} {qb n T : Nat} {E : List Ev} {ft : Nat → Prop}

/-- The events from a key on. -/
def geE (k : Key3) (E : List Ev) : List Ev := E.filter (fun y => decide (0 ≤ cmpK y.key k))
theorem ge_full {k : Key3} {E : List Ev} {i most : Nat} (h : (geE k (E.take i)).length = most) : (geE k E).take most = geE k (E.take i) := by
 have h1 : geE k E = geE k (E.take i) ++ geE k (E.drop i) := by
  unfold geE
  rw [← List.filter_append, List.take_append_drop]
 rw [h1, ← h, List.take_left]
theorem ge_snoc {k : Key3} {E : List Ev} {i : Nat} {x : Ev} (hx : E[i]? = some x) : geE k (E.take (i + 1)) = geE k (E.take i) ++ if 0 ≤ cmpK x.key k then [x] else [] := by
 unfold geE
 rw [List.take_add_one, hx, List.filter_append]
 congr 1
 by_cases h : 0 ≤ cmpK x.key k
 ·rw [if_pos h]; simp [h]
 ·rw [if_neg h]; simp [h]
set_option maxRecDepth 100000 in
set_option maxHeartbeats 2000000 in
theorem QFrom_in (h : QIs w qb n T E ft) (k : Key3) (most : Nat) (hm : most ≤ 1000) : CallsIn Fence.wide 0 Tryz.prog 34 #[.pointer (some ⟨qb, 0, none⟩), .agg #[.int .i64 k.time, .int .i64 k.source, .int .i64 k.seq], .int .i64 most] w fun e w' => ∃ v, e = .returned v ∧ w'.ownsRow w.heap.size 28 5 v ((geE k E).take most).length (flatEv ((geE k E).take most)) ∧ Fr0 none' w w' := by
 obtain ⟨i0, hi, hz0, hz1, hz2⟩ := info_parts info_event0
 have H := Lib.hid h
 have HG := Lib.hid h.good
 have HE := Lib.hid h.le
 clear h
 refine callsIn_of_wp_marks Tryz.func34 rfl trivial ?_ rfl
 simp only [Tryz.ntmps34, List.size_toArray, List.length_cons, List.length_nil, Nat.reduceAdd, Nat.reduceSub, Array.replicate_succ, Array.replicate_zero, List.push_toArray, List.append_toArray, List.nil_append, List.cons_append]
 gi_wp2_with fail
 apply wpIn_scope_straight
 gi_wp2_with fail
 apply wpIn_label
 gi_wp2_with fail
 obtain ⟨N0, hN0⟩ : ∃ N0, w.heap.size = N0 := ⟨_, rfl⟩
 obtain ⟨W3, hW3⟩ : ∃ W, ((w.alloc (.cells #[.int .i64 k.time, .int .i64 k.source, .int .i64 k.seq] 26)).alloc (.cells #[.int .i64 most] 3)).alloc (.cells #[.slice none 0 0] 30) = W := ⟨_, rfl⟩
 have hs1 : (w.alloc (.cells #[.int .i64 k.time, .int .i64 k.source, .int .i64 k.seq] 26)).heap.size = N0 + 1 := by rw [World.size_alloc, hN0]
 have hs2 : ((w.alloc (.cells #[.int .i64 k.time, .int .i64 k.source, .int .i64 k.seq] 26)).alloc (.cells #[.int .i64 most] 3)).heap.size = N0 + 1 + 1 := by rw [World.size_alloc, hs1]
 have Hs3 := Lib.hid (show W3.heap.size = N0 + 3 by rw [← hW3, World.size_alloc, hs2])
 have F3 := Lib.hid (show Fr0 none' w W3 by rw [← hW3]; exact (((Fr0.refl _ _).alloc _).alloc _).alloc _)
 have HK3 := Lib.hid (show W3.heap[N0]? = some (.cells #[.int .i64 k.time, .int .i64 k.source, .int .i64 k.seq] 26 (0, 0)) by
  rw [← hW3, ← hN0]
  exact ((((Fr0.refl none' (w.alloc (.cells #[.int .i64 k.time, .int .i64 k.source, .int .i64 k.seq] 26))).alloc _).alloc _).block w.heap.size (by rw [World.size_alloc]; omega) id).trans (World.alloc_heap_new w _))
 have HM3 := Lib.hid (show Box W3 (N0 + 1) (.int .i64 most) by
  rw [← hW3]
  have h1 := Box.new (w.alloc (.cells #[.int .i64 k.time, .int .i64 k.source, .int .i64 k.seq] 26)) (.int .i64 most) 3
  rw [hs1] at h1
  exact h1.alloc _)
 have HO3 := Lib.hid (show Box W3 (N0 + 1 + 1) (.slice none 0 0) by
  rw [← hW3, ← hs2]
  exact Box.new _ _ _)
 rw [hW3]
 try rw [hN0]
 have HN0 := Lib.hid hN0
 clear hW3 hN0 hs1 hs2
 refine (callsIn_wide.2 (ordered_any qb W3)).mono ?_
 rintro e w4 ⟨rfl, hw4⟩
 rw [Hs3.out]
 obtain ⟨W4, hW4⟩ : ∃ W, W3.alloc (.cells #[.pointer (some ⟨qb, 0, none⟩)] 35) = W := ⟨_, rfl⟩
 rw [hW4] at hw4
 subst hw4
 have F34 := Lib.hid (show Fr0 none' W3 w4 by rw [← hW4]; exact (Fr0.refl _ _).alloc _)
 have Bq4 := Lib.hid (show Box w4 (N0 + 3) (.pointer (some ⟨qb, 0, none⟩)) by rw [← hW4, ← Hs3.out]; exact Box.new _ _ _)
 have Hs4 := Lib.hid (show w4.heap.size = N0 + 4 by rw [← hW4, World.size_alloc, Hs3.out])
 have F4 := Lib.hid (show Fr0 none' w w4 from F3.out.trans F34.out)
 have H4 := Lib.hid (H.out.later F4.out)
 have HK4 := Lib.hid ((F34.out.block N0 (Array.getElem?_eq_some_iff.1 HK3.out).1 id).trans HK3.out)
 have HM4 := Lib.hid (HM3.out.fr0 F34.out id)
 have HO4 := Lib.hid (HO3.out.fr0 F34.out id)
 clear hW4
 obtain ⟨rd, it, hrd⟩ := H4.out.ordered (N0 + 3) Bq4.out
 have Hrd := Lib.hid hrd
 clear hrd
 have hlf := H.out.lt
 gi_wp2_with fail
 refine wpIn_iterS0 (σ := Option Nat) (gf := 69) (lb := #[.pointer (some ⟨N0 + 3, 0, none⟩)]) rfl (by intro args w; rfl) it (Keep.refl _ _) (fun _ => rfl) (fun k hk => hk.elim) (fun k hk => by
   rw [Hs4.out]
   rcases Hrd.out k hk with rfl | h
   ·omega
   ·have := hlf k h
    have := HN0.out
    omega)
  (fun i s W => ∃ v, v.ownBlock = s ∧ Box W (N0 + 1 + 1) v ∧ W.ownsRow (N0 + 6) 28 5 v (geE k (E.take i)).length (flatEv (geE k (E.take i))) ∧ (geE k (E.take i)).length ≤ most ∧ W.heap[N0]? = some (.cells #[.int .i64 k.time, .int .i64 k.source, .int .i64 k.seq] 26 (0, 0)) ∧ Box W (N0 + 1) (.int .i64 most) ∧ Fr0 none' w W)
  (fun s j => j = N0 + 1 + 1 ∨ s = some j)
  (fun c W => c = .exit 0 ∧ ∃ v, Box W (N0 + 1 + 1) v ∧ W.ownsRow (N0 + 6) 28 5 v ((geE k E).take most).length (flatEv ((geE k E).take most)) ∧ Fr0 none' w W) ?hInv ?hlt ?hIx none ?h0 ?hf0
  (fun (x : Ev) W a' => ∃ B, a' = { tmps := #[.pointer (some ⟨qb, 0, none⟩), .agg #[.int .i64 k.time, .int .i64 k.source, .int .i64 k.seq], .int .i64 most, undef, .pointer (some ⟨N0, 0, none⟩), .pointer (some ⟨N0 + 1, 0, none⟩), .slice none 0 0, .pointer (some ⟨N0 + 1 + 1, 0, none⟩), .pointer (some ⟨B, 0, none⟩), undef, undef, .pointer (some ⟨qb, 0, none⟩), .func (.func 69) #[] #[.pointer (some ⟨N0 + 3, 0, none⟩)], .agg #[.int .i64 x.key.time, .int .i64 x.key.source, .int .i64 x.key.seq, .int .i64 x.to, .int .i64 x.value], undef, undef, undef, undef, undef, undef, undef, undef, undef, undef, undef, undef, undef, undef, undef, undef, undef, undef], defers := [] } ∧ N0 + 5 < B ∧ W.heap[B]? = some (.cells (cev x).toArray 28 (0, 0)))
  ?assign ?keep ?body ?done ?stop
 case hInv =>
  rintro i s W1 W2 ⟨v, rfl, h2, h3, h4, h5, h6, h7⟩ hf
  rw [Hs4.out] at hf
  refine ⟨v, rfl, h2.fr0 hf (fun hs => hs.2 (.inl rfl)), ownsRow_fr0 h3 hf (fun g hg hs => hs.2 (.inr hg)), h4, (hf.block N0 (Array.getElem?_eq_some_iff.1 h5).1 (fun hs => ?_)).trans h5, h6.fr0 hf (fun hs => ?_), h7.trans' hf (fun j hj hs => ?_)⟩
  ·rcases hs.1 with h | h
   ·exact h
   ·omega
  ·rcases hs.1 with h | h
   ·exact h
   ·omega
  ·rcases hs.1 with h | h
   ·exact h
   ·have := HN0.out; omega
 case hlt =>
  rintro i s W j ⟨v, rfl, h2, h3, h4, h5, h6, h7⟩ (rfl | hk)
  ·exact h2.lt
  ·exact (h3.lt j hk).2
 case hIx =>
  rintro c W1 W2 ⟨h0, v, h1, h2, h3⟩ hf
  rw [Hs4.out] at hf
  have hge : ∀ j, (none' j ∨ j = N0 + 4 ∨ j = N0 + 4 + 1) → j = N0 + 4 ∨ j = N0 + 5 := fun j h => by
   rcases h with h | h | h
   ·exact h.elim
   ·exact .inl h
   ·exact .inr h
  exact ⟨h0, v, h1.fr0 hf (fun h => by have := hge _ h; omega), ownsRow_fr0 h2 hf (fun g hg h => by have := hge _ h; have := (h2.lt g hg).1; omega), h3.trans' hf (fun j hj h => by have := hge _ h; have := HN0.out; omega)⟩
 case h0 => exact ⟨.slice none 0 0, rfl, HO4.out, World.ownsRow_nil _ _ _ _, Nat.zero_le _, HK4.out, HM4.out, F4.out⟩
 case hf0 =>
  rintro j (rfl | hk)
  ·refine ⟨id, fun hr => ?_⟩
   rcases Hrd.out _ hr with h | h
   ·omega
   ·have := hlf _ h
    have := HN0.out
    omega
  ·cases hk
 case assign =>
  intro l x W K hlt hK
  rw [Hs4.out] at hlt
  simp only [evV]
  gi_wp2
  exact hK _ _ ⟨W.heap.size, rfl, by omega, World.alloc_heap_new W _⟩ ((Fr0.refl _ _).alloc _)
 case keep =>
  rintro x W4 W5 a' ⟨B, rfl, hB, hc⟩ hf
  exact ⟨B, rfl, hB, (hf.block B (Array.getElem?_eq_some_iff.1 hc).1 (by rw [Hs4.out]; omega)).trans hc⟩
 case body =>
  rintro l i x s W a' hxi ⟨v, rfl, h2, h3, h4, h5, h6, h7⟩ hfoot hsz ⟨B, rfl, hB, hcB⟩
  have hlt : i < E.length := (List.getElem?_eq_some_iff.1 hxi).1
  have b0 := cells_in hcB 0
  have b1 := cells_in hcB 1
  have b2 := cells_in hcB 2
  have b3 := cells_in hcB 3
  have b4 := cells_in hcB 4
  simp [cev] at b0 b1 b2 b3 b4
  have k0 := cells_in h5 0
  have k1 := cells_in h5 1
  have k2 := cells_in h5 2
  simp at k0 k1 k2
  have cO := h2.cell
  have cM := h6.cell
  obtain ⟨va, vc, rfl, _, _⟩ := EsIn.of_own h3
  obtain ⟨G, hG⟩ : ∃ G, geE k (E.take i) = G := ⟨_, rfl⟩
  rw [hG] at h3 h4 cO h2 ⊢
  obtain ⟨gl, hgl⟩ : ∃ gl, G.length = gl := ⟨_, rfl⟩
  rw [hgl] at h3 h4 cO h2 ⊢
  by_cases hfull : most ≤ gl
  ·have d1 : decide ((gl : Int) ≥ (most : Int)) = true := decide_eq_true (by omega)
   have d2 : decide ((most : Int) ≤ (gl : Int)) = true := decide_eq_true (by omega)
   have d3 : decide (most ≤ gl) = true := decide_eq_true hfull
   gi_wp2_with fail
   have hge : gl = most := by omega
   have hrow := h3
   refine ⟨Fr0.refl _ _, rfl, _, h2, ?_, h7⟩
   have hff := ge_full (k := k) (E := E) (i := i) (most := most) (by rw [hG, hgl]; exact hge)
   rw [← List.length_take, hff, hG, hgl]
   exact h3
  ·have d1 : decide ((gl : Int) ≥ (most : Int)) = false := decide_eq_false (by omega)
   have d2 : decide ((most : Int) ≤ (gl : Int)) = false := decide_eq_false (by omega)
   have d3 : decide (most ≤ gl) = false := decide_eq_false hfull
   gi_wp2_with fail
   have hsn := ge_snoc (k := k) (E := E) (i := i) (x := x) hxi
   rw [hG] at hsn
   have HC := Compare_any x.key k W
   simp only [keyV] at HC
   obtain ⟨c, hc⟩ : ∃ c, cmpK x.key k = c := ⟨_, rfl⟩
   rw [hc] at HC hsn
   have Hsn := Lib.hid hsn
   have H3 := Lib.hid h3
   have H7 := Lib.hid h7
   have H5 := Lib.hid h5
   have H6 := Lib.hid h6
   have H2 := Lib.hid h2
   have Hgl := Lib.hid hgl
   have Hsz := Lib.hid hsz
   clear hc hsn h3 h7 h5 h6 h2 hG hgl k0 k1 k2 hxi hsz
   refine (callsIn_wide.2 HC).mono ?_
   rintro e w5 ⟨rfl, hf0⟩
   have hf5 : Fr0 none' W w5 := hf0.to0
   obtain ⟨fv, hfv⟩ : ∃ fv, fieldK x.key k = fv := ⟨_, rfl⟩
   rw [hfv]
   have hcB5 := (hf5.block B (Array.getElem?_eq_some_iff.1 hcB).1 id).trans hcB
   have h25 := H2.out.fr0 hf5 id
   have HRow := Lib.hid (ownsRow_fr0 H3.out hf5 (fun _ _ h => h))
   have h55 := Lib.hid ((hf5.block N0 (Array.getElem?_eq_some_iff.1 H5.out).1 id).trans H5.out)
   have h65 := Lib.hid (H6.out.fr0 hf5 id)
   have h75 := Lib.hid (H7.out.trans hf5)
   have F5 := Lib.hid hf5
   clear hf0 hfv HC b0 b1 b2 b3 b4 cO cM
   have b0 := cells_in hcB5 0
   have b1 := cells_in hcB5 1
   have b2 := cells_in hcB5 2
   have b3 := cells_in hcB5 3
   have b4 := cells_in hcB5 4
   simp [cev] at b0 b1 b2 b3 b4
   have cO := h25.cell
   have cF := h25.frozen
   have H25 := Lib.hid h25
   clear hcB hcB5 hf5 h25
   by_cases hc0 : 0 ≤ c
   ·have dd : decide (c ≥ 0) = true := decide_eq_true hc0
    have dd2 : decide (0 ≤ c) = true := decide_eq_true hc0
    have hsn := Hsn.out
    rw [if_pos hc0] at hsn
    have Hsn := Lib.hid hsn
    have hsrc := Src.newRow (P := Tryz.prog) (size := 5) (tx := 30) (ty := 28) w5 Tryz.underlying30 1 1 (cev x) rfl (by simp [Value.oneCell', cev])
    simp only [cev] at hsrc
    have hbase : N0 + 6 ≤ w5.heap.size := by have := Hsz.out; rw [Hs4.out] at this; have := F5.out.size; omega
    have hgl5 : gl ≤ 1000 := by omega
    clear hsn hc0
    gi_wp2_with (gi_at_builtin; refine wpListIn_append_k rfl _ _ 30 30 rfl (N0 + 6) 28 i0 (.agg #[.int .i64 0, .int .i64 0, .int .i64 0, .int .i64 0, .int .i64 0]) 5 40 Tryz.underlying30 hi hz0 hz1 hz2 rfl (by decide) (.slice va gl vc) gl _ rfl (ownsRow_fr0 HRow.out ((Fr0.refl none' w5).alloc _) (fun _ _ h => h)) (.slice (some ⟨w5.heap.size, 0, none⟩) 1 1) 1 _ rfl hsrc (by unfold maxLen; omega) (by omega) (by simp; omega) ?_; intro v' w6 hown' hgrow hdr hob; obtain ⟨g', cap', rfl⟩ := ownsRow_k_succ hown'; have hfg := ((Fr0.refl (fun k => (Value.slice va gl vc).ownBlock = some k) w5).alloc _).grown hgrow (fun k hk _ => hk); have hb1 := H25.out.fr0 hfg (fun h => by have := (HRow.out.lt _ h).1; omega); have hc1 := hb1.cell; have hf1 := hb1.frozen)
    have hb2 := hb1.set (.slice (some ⟨g', 0, none⟩) (gl + 1) cap')
    have hf2 := (hfg.mono (S' := fun k => k = N0 + 1 + 1 ∨ (Value.slice va gl vc).ownBlock = some k) (fun k _ h => .inr h)).setCell (b := N0 + 1 + 1) (o := 0) (fun _ => .inl rfl) (.slice (some ⟨g', 0, none⟩) (gl + 1) cap')
    refine ⟨_, ⟨(.slice (some ⟨g', 0, none⟩) (gl + 1) cap'), rfl, hb2, ?_, ?_, ?_, ?_, ?_⟩, (F5.out.mono (fun _ _ h => h.elim)).trans hf2, ?_⟩
    ·have h3 := ownsRow_setCell_below hown' (a := ⟨N0 + 1 + 1, 0, none⟩) (by simp) (.slice (some ⟨g', 0, none⟩) (gl + 1) cap')
     have h4 : flatEv (G ++ [x]) = flatEv G ++ [.int .i64 x.key.time, .int .i64 x.key.source, .int .i64 x.key.seq, .int .i64 x.to, .int .i64 x.value] := by rw [flatEv_append, flatEv_single]; rfl
     rw [Hsn.out, List.length_append, List.length_singleton, Hgl.out, h4]
     exact h3
    ·rw [Hsn.out, List.length_append, List.length_singleton, Hgl.out]
     omega
    ·refine (hf2.block N0 (Array.getElem?_eq_some_iff.1 h55.out).1 (fun hs => ?_)).trans h55.out
     rcases hs with h | h
     ·omega
     ·have := (HRow.out.lt _ h).1; omega
    ·refine h65.out.fr0 hf2 (fun hs => ?_)
     rcases hs with h | h
     ·omega
     ·have := (HRow.out.lt _ h).1; omega
    ·refine h75.out.trans' hf2 (fun j hj hs => ?_)
     rcases hs with h | h
     ·have := HN0.out; omega
     ·have := (HRow.out.lt _ h).1; have := HN0.out; omega
    ·rintro j (rfl | hj)
     ·exact .inl (.inl rfl)
     ·rcases hob with h | h
      ·rw [h] at hj
       exact .inl (.inr hj)
      ·rw [h] at hj
       injection hj with hj
       rw [World.size_alloc] at hj
       have := F5.out.size
       exact .inr (by omega)
   ·have dd : decide (c ≥ 0) = false := decide_eq_false hc0
    have dd2 : decide (0 ≤ c) = false := decide_eq_false hc0
    have hsn := Hsn.out
    rw [if_neg hc0, List.append_nil] at hsn
    have Hsn := Lib.hid hsn
    clear hsn hc0
    gi_wp2_with fail
    refine ⟨_, ⟨.slice va gl vc, rfl, H25.out, ?_, ?_, h55.out, h65.out, h75.out⟩, F5.out.mono (fun _ _ h => h.elim), fun j hj => .inl hj⟩
    ·rw [Hsn.out, Hgl.out]
     exact HRow.out
    ·rw [Hsn.out, Hgl.out]
     omega
 case done =>
  rintro D s W hDe ⟨v, rfl, h2, h3, h4, h5, h6, h7⟩ hDf hK
  rw [Hs4.out] at hDe
  subst hDe
  rw [List.take_length] at h3 h4
  have htk : (geE k E).take most = geE k E := List.take_of_length_le h4
  have hc := h2.cell
  have hfp : Fr0 (fun k => k = N0 + 4) W (W.putObj (N0 + 4) (.deferred none)) := Fr0.putNew _ _ rfl
  have hfin := Lib.hid (show (W.putObj (N0 + 4) (.deferred none)).ownsRow w.heap.size 28 5 v ((geE k E).take most).length (flatEv ((geE k E).take most)) ∧ Fr0 none' w (W.putObj (N0 + 4) (.deferred none)) from ⟨by rw [htk]; exact own_up (ownsRow_fr0 h3 hfp (fun g hg e => by have := (h3.lt g hg).1; omega)) (by have := HN0.out; omega), h7.trans' hfp (fun j hj e => by have := HN0.out; omega)⟩)
  have HK := Lib.hid hK
  clear h2 h3 h4 h5 h6 h7 hDf hK hfp it htk
  gi_wp2
  refine ⟨by simp, .inl ⟨_, _, rfl, run_takeDeferred HK.out, ?_⟩⟩
  refine ⟨_, results_tmp rfl _ _ _, v, rfl, hfin.out⟩
 case stop =>
  rintro D c W hDe ⟨rfl, v, h2, h3, h7⟩ hK
  rw [Hs4.out] at hDe
  subst hDe
  have hc := h2.cell
  have hfp : Fr0 (fun k => k = N0 + 4) W (W.putObj (N0 + 4) (.deferred none)) := Fr0.putNew _ _ rfl
  have hfin := Lib.hid (show (W.putObj (N0 + 4) (.deferred none)).ownsRow w.heap.size 28 5 v ((geE k E).take most).length (flatEv ((geE k E).take most)) ∧ Fr0 none' w (W.putObj (N0 + 4) (.deferred none)) from ⟨own_up (ownsRow_fr0 h3 hfp (fun g hg e => by have := (h3.lt g hg).1; omega)) (by have := HN0.out; omega), h7.trans' hfp (fun j hj e => by have := HN0.out; omega)⟩)
  have HK := Lib.hid hK
  clear h2 h3 h7 hK hfp it
  gi_wp2
  refine ⟨by simp, .inl ⟨_, _, rfl, run_takeDeferred HK.out, ?_⟩⟩
  refine ⟨_, results_tmp rfl _ _ _, v, rfl, hfin.out⟩
theorem QIs.from_ (h : QIs w qb n T E ft) (k : Key3) (most : Nat) (hm : most ≤ 1000) : Calls Tryz.prog 34 #[.pointer (some ⟨qb, 0, none⟩), .agg #[.int .i64 k.time, .int .i64 k.source, .int .i64 k.seq], .int .i64 most] w fun e w' => ∃ v, e = .returned v ∧ w'.ownsRow w.heap.size 28 5 v ((geE k E).take most).length (flatEv ((geE k E).take most)) ∧ Fr0 none' w w' := callsIn_wide.1 (QFrom_in h k most hm)
end Go.Proofs.YtmcgipilopfgoaaGreat

/-
  EvqTells: what a queue tells is what the reference's list says.
-/
namespace Go.Proofs.YtmcgipilopfgoaaGreat
open Go Go.RowKit Go.ChangeMaps
attribute [local go_sem ↓] Go.wp_at_zero Go.wp_at_succ
attribute [local go_sem] Oper.semAt_some wide_fn wide_depth wide_fnR wide_depthR
attribute [local go_sem high] run_eql_ev run_neq_ev

/-- The reference's queue beside a queue. -/
def RsK (W : World) (n : Nat) (E : List Ev) (ra : Option Addr) (rc : Nat) (ft : Nat → Prop) : Prop := EsIn W ra E ∧ E.length ≤ rc ∧ ∀ g o s, ra = some ⟨g, o, s⟩ → ¬ ft g ∧ g < W.heap.size
theorem rTake_any {w : World} {a : Option Addr} {m cap : Nat} (c : Int) (E : List Ev) (h : EsIn w a E) (hl : E.length = m) (hm : m ≤ 1000) (hc : m ≤ cap) :
  Calls Tryz.prog 48 #[.agg #[.int .i64 c, .slice a m cap]] w fun e w' => ∃ a' n' cap', e = .returned (.tuple #[.agg #[.int .i64 c, .slice a' n' cap'], evV (lstE E), .int .i64 (if E.isEmpty then 6 else 0)]) ∧ RAt w' a w.heap.size c E.tail (.agg #[.int .i64 c, .slice a' n' cap']) ∧ Fr0 none' w w' := by
 cases E with
 | nil =>
  have hm0 : m = 0 := by simpa using hl.symm
  subst hm0
  refine (rTake_nil (w := w) (a := a) (cap := cap) c).mono ?_
  rintro e w' ⟨rfl, hf⟩
  exact ⟨a, 0, cap, rfl, RAt.same (E := []) (esIn_nil _ _) hf (Nat.zero_le _), hf⟩
 | cons x r =>
  refine (rTake_some c x r h (by simpa using hl) hm hc).mono ?_
  rintro e w' ⟨v, rfl, hA, hf⟩
  obtain ⟨a', cap', rfl, h2⟩ := hA
  exact ⟨a', r.length, cap', rfl, ⟨a', cap', rfl, h2⟩, hf⟩
set_option maxRecDepth 100000 in
set_option maxHeartbeats 4000000 in
theorem same_any {w : World} {qb n T : Nat} {E : List Ev} {ft : Nat → Prop} {ra : Option Addr} {m rc : Nat} (h : QIs w qb n T E ft) (hr : EsIn w ra E) (hm : E.length = m) (hrc : m ≤ rc) :
  Calls Tryz.prog 21 #[.pointer (some ⟨qb, 0, none⟩), .agg #[.int .i64 n, .slice ra m rc]] w fun e w' => e = .returned (.bool true) ∧ Fr0 none' w w' := by
 have H := Lib.hid h
 have HR := Lib.hid hr
 have Hm := Lib.hid hm
 have hle := h.le
 clear h hr
 have hm256 : m ≤ 256 := by omega
 clear hle hm
 go_enter Tryz.func21, Tryz.ntmps21
 go_wp2_with fail
 obtain ⟨SB, hSB⟩ : ∃ B, w.heap.size = B := ⟨_, rfl⟩
 obtain ⟨W1, hW1⟩ : ∃ W, w.alloc (.cells #[.int .i64 n, .slice ra m rc] 50) = W := ⟨_, rfl⟩
 have HS := Lib.hid (show W1.heap[SB]? = some (.cells #[.int .i64 n, .slice ra m rc] 50 (0, 0)) by rw [← hW1, ← hSB]; exact World.alloc_heap_new w _)
 have HF := Lib.hid (show Fr0 none' w W1 by rw [← hW1]; exact (Fr0.refl _ _).alloc _)
 rw [hW1]
 try rw [hSB]
 clear hW1 hSB
 have hL := (H.out.later HF.out).least
 obtain ⟨x, hx⟩ : ∃ x, lstE E = x := ⟨_, rfl⟩
 obtain ⟨b, hb⟩ : ∃ b, E.isEmpty = b := ⟨_, rfl⟩
 rw [hx, hb] at hL
 have Hx := Lib.hid hx
 have Hb := Lib.hid hb
 simp only [evV] at hL
 refine hL.mono ?_
 rintro e w2 ⟨rfl, hf⟩
 have HS := Lib.hid ((hf.block SB (Array.getElem?_eq_some_iff.1 HS.out).1 id).trans HS.out)
 have HF := Lib.hid (HF.out.trans hf)
 clear hL hf hx hb
 obtain ⟨W3, hW⟩ : ∃ W, w2.alloc (.cells #[.int .i64 x.key.time, .int .i64 x.key.source, .int .i64 x.key.seq, .int .i64 x.to, .int .i64 x.value] 28) = W := ⟨_, rfl⟩
 obtain ⟨XB, hXB⟩ : ∃ B, w2.heap.size = B := ⟨_, rfl⟩
 have hf : Fr0 none' w2 W3 := by rw [← hW]; exact (Fr0.refl _ _).alloc _
 have HX := Lib.hid (show W3.heap[XB]? = some (.cells (cev x).toArray 28 (0, 0)) by rw [← hW, ← hXB]; exact World.alloc_heap_new _ _)
 have HS := Lib.hid ((hf.block SB (Array.getElem?_eq_some_iff.1 HS.out).1 id).trans HS.out)
 have HF := Lib.hid (HF.out.trans hf)
 have HXB := Lib.hid hXB
 have s0 := cells_in HS.out 0
 have s1 := cells_in HS.out 1
 simp at s0 s1
 clear hf hXB
 subst hW
 go_wp2_with fail
 refine (rTake_any (n : Int) E (HR.out.later HF.out) Hm.out (by omega) hrc).mono ?_
 rintro e w3 ⟨a', n', cap', rfl, hA, hf⟩
 rw [Hx.out, Hb.out]
 obtain ⟨ev, hev⟩ : ∃ i : Int, (if b = true then 6 else 0) = i := ⟨_, rfl⟩
 rw [hev]
 have Hev := Lib.hid (show (ev == 0) = !b by rw [← hev]; cases b <;> rfl)
 simp only [evV]
 rw [HXB.out]
 have HS := Lib.hid ((hf.block SB (Array.getElem?_eq_some_iff.1 HS.out).1 id).trans HS.out)
 have HX := Lib.hid ((hf.block XB (Array.getElem?_eq_some_iff.1 HX.out).1 id).trans HX.out)
 have HF := Lib.hid (HF.out.trans hf)
 clear s0 s1 hf hA hev
 go_wp2_with fail
 obtain ⟨z3, hz3⟩ : ∃ z, w3.heap.size = z := ⟨_, rfl⟩
 obtain ⟨W4, hW4⟩ : ∃ W, (w3.alloc (.cells #[.int .i64 n, .slice a' n' cap'] 50)).alloc (.cells #[.int .i64 x.key.time, .int .i64 x.key.source, .int .i64 x.key.seq, .int .i64 x.to, .int .i64 x.value] 28) = W := ⟨_, rfl⟩
 have hf : Fr0 none' w3 W4 := by rw [← hW4]; exact ((Fr0.refl _ _).alloc _).alloc _
 have HY := Lib.hid (show W4.heap[z3 + 1]? = some (.cells (cev x).toArray 28 (0, 0)) by
  have h7 := World.alloc_heap_new (w3.alloc (.cells #[.int .i64 n, .slice a' n' cap'] 50)) (.cells #[.int .i64 x.key.time, .int .i64 x.key.source, .int .i64 x.key.seq, .int .i64 x.to, .int .i64 x.value] 28)
  rw [World.size_alloc, hz3] at h7
  rw [← hW4]
  exact h7)
 have HS := Lib.hid ((hf.block SB (Array.getElem?_eq_some_iff.1 HS.out).1 id).trans HS.out)
 have HX := Lib.hid ((hf.block XB (Array.getElem?_eq_some_iff.1 HX.out).1 id).trans HX.out)
 have HF := Lib.hid (HF.out.trans hf)
 rw [hW4, hz3]
 clear hW4 hz3 hf
 have HW4 := Lib.hid (show w.heap.size ≤ W4.heap.size ∧ SB < W4.heap.size from ⟨HF.out.size, (Array.getElem?_eq_some_iff.1 HS.out).1⟩)
 refine (H.out.later HF.out).all.mono ?_
 rintro e w5 ⟨v, rfl, hrow, hf⟩
 obtain ⟨va, vc, rfl, hvl, hve⟩ := EsIn.of_own hrow
 have HS := Lib.hid ((hf.block SB (Array.getElem?_eq_some_iff.1 HS.out).1 id).trans HS.out)
 have HX := Lib.hid ((hf.block XB (Array.getElem?_eq_some_iff.1 HX.out).1 id).trans HX.out)
 have HY := Lib.hid ((hf.block (z3 + 1) (Array.getElem?_eq_some_iff.1 HY.out).1 id).trans HY.out)
 have HF := Lib.hid (HF.out.trans hf)
 rw [Hm.out] at hrow ⊢
 have HRow := Lib.hid hrow
 have Hve := Lib.hid hve
 clear hrow hf hvl hve
 go_wp2_with fail
 have HZ := Lib.hid (fun (W' : World) (hf : Fr0 none' w5 W') => (show (W'.cell? ⟨SB, 0, none⟩ = some (.int .i64 n) ∧ W'.cell? ⟨SB, 1, none⟩ = some (.slice ra m rc)) ∧ (W'.cell? ⟨XB, 0, none⟩ = some (.int .i64 x.key.time) ∧ W'.cell? ⟨XB, 1, none⟩ = some (.int .i64 x.key.source) ∧ W'.cell? ⟨XB, 2, none⟩ = some (.int .i64 x.key.seq) ∧ W'.cell? ⟨XB, 3, none⟩ = some (.int .i64 x.to) ∧ W'.cell? ⟨XB, 4, none⟩ = some (.int .i64 x.value)) ∧ W'.cell? ⟨z3 + 1, 0, none⟩ = some (.int .i64 x.key.time) ∧ W'.cell? ⟨z3 + 1, 1, none⟩ = some (.int .i64 x.key.source) ∧ W'.cell? ⟨z3 + 1, 2, none⟩ = some (.int .i64 x.key.seq) ∧ W'.cell? ⟨z3 + 1, 3, none⟩ = some (.int .i64 x.to) ∧ W'.cell? ⟨z3 + 1, 4, none⟩ = some (.int .i64 x.value) from by
  have h1 := (hf.block SB (Array.getElem?_eq_some_iff.1 HS.out).1 id).trans HS.out
  have h2 := (hf.block XB (Array.getElem?_eq_some_iff.1 HX.out).1 id).trans HX.out
  have h3 := (hf.block (z3 + 1) (Array.getElem?_eq_some_iff.1 HY.out).1 id).trans HY.out
  refine ⟨⟨?_, ?_⟩, ⟨?_, ?_, ?_, ?_, ?_⟩, ?_, ?_, ?_, ?_, ?_⟩
  ·rw [cells_in h1]; rfl
  ·rw [cells_in h1]; rfl
  ·rw [cells_in h2]; rfl
  ·rw [cells_in h2]; rfl
  ·rw [cells_in h2]; rfl
  ·rw [cells_in h2]; rfl
  ·rw [cells_in h2]; rfl
  ·rw [cells_in h3]; rfl
  ·rw [cells_in h3]; rfl
  ·rw [cells_in h3]; rfl
  ·rw [cells_in h3]; rfl
  ·rw [cells_in h3]; rfl))
 have hse : sameE ⟨⟨x.key.time, x.key.source, x.key.seq⟩, x.to, x.value⟩ ⟨⟨x.key.time, x.key.source, x.key.seq⟩, x.to, x.value⟩ = true := by unfold sameE; simp
 have hev := Hev.out
 have hmn : m ≤ n := by have := H.out.le.1; rw [Hm.out] at this; exact this
 have hn256 := H.out.le.2
 have wsub : IntKind.i64.wrap ((n : Int) - (m : Int)) = ((n - m : Nat) : Int) := by rw [IntWalk.i64_in _ (by omega)]; omega
 refine wp_region_held_drew (S := fun W' => Fr0 none' w5 W') (by kernel_rfl) ((Fr0.refl _ w5).drew) (fun hHeld => ?_)
 refine tkn (i := 0) (v := .agg #[.int .i64 x.key.time, .int .i64 x.key.source, .int .i64 x.key.seq, .int .i64 x.to, .int .i64 x.value]) (fun W' hSW => ?_) ?_
 ·obtain ⟨⟨s0, s1⟩, ⟨b0, b1, b2, b3, b4⟩, c0, c1, c2, c3, c4⟩ := HZ.out W' hSW
  first | (go_simp; done) | exact rfl | (go_simp; rfl) | (go_simp; omega)
 try simp only [pUt, pUn, sEt, sEz, sEs]
 refine tkn (i := 1) (v := .agg #[.int .i64 x.key.time, .int .i64 x.key.source, .int .i64 x.key.seq, .int .i64 x.to, .int .i64 x.value]) (fun W' hSW => ?_) ?_
 ·obtain ⟨⟨s0, s1⟩, ⟨b0, b1, b2, b3, b4⟩, c0, c1, c2, c3, c4⟩ := HZ.out W' hSW
  first | (go_simp; done) | exact rfl | (go_simp; rfl) | (go_simp; omega)
 try simp only [pUt, pUn, sEt, sEz, sEs]
 refine tkn (i := 2) (v := .bool false) (fun W' hSW => ?_) ?_
 ·obtain ⟨⟨s0, s1⟩, ⟨b0, b1, b2, b3, b4⟩, c0, c1, c2, c3, c4⟩ := HZ.out W' hSW
  first | (go_simp; done) | exact rfl | (go_simp; rfl) | (go_simp; omega)
 try simp only [pUt, pUn, sEt, sEz, sEs]
 refine tkn (i := 3) (v := .bool false) (fun W' hSW => ?_) ?_
 ·obtain ⟨⟨s0, s1⟩, ⟨b0, b1, b2, b3, b4⟩, c0, c1, c2, c3, c4⟩ := HZ.out W' hSW
  first | (go_simp; done) | exact rfl | (go_simp; rfl) | (go_simp; omega)
 try simp only [pUt, pUn, sEt, sEz, sEs]
 refine tkn (i := 4) (v := .bool !b) (fun W' hSW => ?_) ?_
 ·obtain ⟨⟨s0, s1⟩, ⟨b0, b1, b2, b3, b4⟩, c0, c1, c2, c3, c4⟩ := HZ.out W' hSW
  first | (go_simp; done) | exact rfl | (go_simp; rfl) | (go_simp; omega)
 try simp only [pUt, pUn, sEt, sEz, sEs]
 refine tkn (i := 5) (v := .int .i64 ev) (fun W' hSW => ?_) ?_
 ·obtain ⟨⟨s0, s1⟩, ⟨b0, b1, b2, b3, b4⟩, c0, c1, c2, c3, c4⟩ := HZ.out W' hSW
  first | (go_simp; done) | exact rfl | (go_simp; rfl) | (go_simp; omega)
 try simp only [pUt, pUn, sEt, sEz, sEs]
 refine tkn (i := 6) (v := .bool !b) (fun W' hSW => ?_) ?_
 ·obtain ⟨⟨s0, s1⟩, ⟨b0, b1, b2, b3, b4⟩, c0, c1, c2, c3, c4⟩ := HZ.out W' hSW
  first | (go_simp; done) | exact rfl | (go_simp; rfl) | (go_simp; omega)
 try simp only [pUt, pUn, sEt, sEz, sEs]
 refine tkn (i := 7) (v := .bool false) (fun W' hSW => ?_) ?_
 ·obtain ⟨⟨s0, s1⟩, ⟨b0, b1, b2, b3, b4⟩, c0, c1, c2, c3, c4⟩ := HZ.out W' hSW
  first | (go_simp; done) | exact rfl | (go_simp; rfl) | (go_simp; omega)
 try simp only [pUt, pUn, sEt, sEz, sEs]
 refine tkn (i := 8) (v := .bool false) (fun W' hSW => ?_) ?_
 ·obtain ⟨⟨s0, s1⟩, ⟨b0, b1, b2, b3, b4⟩, c0, c1, c2, c3, c4⟩ := HZ.out W' hSW
  first | (go_simp; done) | exact rfl | (go_simp; rfl) | (go_simp; omega)
 try simp only [pUt, pUn, sEt, sEz, sEs]
 refine tkn (i := 9) (v := .bool false) (fun W' hSW => ?_) ?_
 ·obtain ⟨⟨s0, s1⟩, ⟨b0, b1, b2, b3, b4⟩, c0, c1, c2, c3, c4⟩ := HZ.out W' hSW
  first | (go_simp; done) | exact rfl | (go_simp; rfl) | (go_simp; omega)
 try simp only [pUt, pUn, sEt, sEz, sEs]
 refine tkn (i := 10) (v := .slice va m vc) (fun W' hSW => ?_) ?_
 ·obtain ⟨⟨s0, s1⟩, ⟨b0, b1, b2, b3, b4⟩, c0, c1, c2, c3, c4⟩ := HZ.out W' hSW
  first | (go_simp; done) | exact rfl | (go_simp; rfl) | (go_simp; omega)
 try simp only [pUt, pUn, sEt, sEz, sEs]
 refine tkn (i := 11) (v := .pointer (some ⟨SB, 1, none⟩)) (fun W' hSW => ?_) ?_
 ·obtain ⟨⟨s0, s1⟩, ⟨b0, b1, b2, b3, b4⟩, c0, c1, c2, c3, c4⟩ := HZ.out W' hSW
  first | (go_simp; done) | exact rfl | (go_simp; rfl) | (go_simp; omega)
 try simp only [pUt, pUn, sEt, sEz, sEs]
 refine tkn (i := 12) (v := .slice ra m rc) (fun W' hSW => ?_) ?_
 ·obtain ⟨⟨s0, s1⟩, ⟨b0, b1, b2, b3, b4⟩, c0, c1, c2, c3, c4⟩ := HZ.out W' hSW
  first | (go_simp; done) | exact rfl | (go_simp; rfl) | (go_simp; omega)
 try simp only [pUt, pUn, sEt, sEz, sEs]
 have HE := Lib.hid (sameEs_any va ra _ _ vc rc E E w5.drew Hm.out Hm.out (by omega) (by omega) (Hve.out.later hHeld) (HR.out.later (HF.out.trans hHeld)))
 rw [decide_eq_true rfl] at HE
 refine take_call (i := 13) rfl (by kernel_rfl) (by kernel_rfl) (fun K hK => ?_)
 go_simp
 refine HE.out.mono ?_
 rintro e w6 ⟨rfl, hf6⟩
 have h56 : Fr0 none' w5 w6 := hHeld.trans hf6
 go_wp2_with fail
 refine hK.out _ _ h56 (fun hS => ?_)
 clear hK K
 try simp only [pUt, pUn, sEt, sEz, sEs]
 clear hHeld hf6 HE
 refine tkn (i := 14) (v := .bool false) (fun W' hSW => ?_) ?_
 ·obtain ⟨⟨s0, s1⟩, ⟨b0, b1, b2, b3, b4⟩, c0, c1, c2, c3, c4⟩ := HZ.out W' hSW
  first | (go_simp; done) | exact rfl | (go_simp; rfl) | (go_simp; omega)
 try simp only [pUt, pUn, sEt, sEz, sEs]
 refine tkn (i := 15) (v := .bool false) (fun W' hSW => ?_) ?_
 ·obtain ⟨⟨s0, s1⟩, ⟨b0, b1, b2, b3, b4⟩, c0, c1, c2, c3, c4⟩ := HZ.out W' hSW
  first | (go_simp; done) | exact rfl | (go_simp; rfl) | (go_simp; omega)
 try simp only [pUt, pUn, sEt, sEz, sEs]
 refine tkn (i := 16) (v := .bool false) (fun W' hSW => ?_) ?_
 ·obtain ⟨⟨s0, s1⟩, ⟨b0, b1, b2, b3, b4⟩, c0, c1, c2, c3, c4⟩ := HZ.out W' hSW
  first | (go_simp; done) | exact rfl | (go_simp; rfl) | (go_simp; omega)
 try simp only [pUt, pUn, sEt, sEz, sEs]
 refine tkn (i := 17) (v := .pointer (some ⟨qb, 0, none⟩)) (fun W' hSW => ?_) ?_
 ·obtain ⟨⟨s0, s1⟩, ⟨b0, b1, b2, b3, b4⟩, c0, c1, c2, c3, c4⟩ := HZ.out W' hSW
  first | (go_simp; done) | exact rfl | (go_simp; rfl) | (go_simp; omega)
 try simp only [pUt, pUn, sEt, sEz, sEs]
 refine tkn (i := 19) (v := .pointer (some ⟨SB, 1, none⟩)) (fun W' hSW => ?_) ?_
 ·obtain ⟨⟨s0, s1⟩, ⟨b0, b1, b2, b3, b4⟩, c0, c1, c2, c3, c4⟩ := HZ.out W' hSW
  first | (go_simp; done) | exact rfl | (go_simp; rfl) | (go_simp; omega)
 try simp only [pUt, pUn, sEt, sEz, sEs]
 refine tkn (i := 20) (v := .slice ra m rc) (fun W' hSW => ?_) ?_
 ·obtain ⟨⟨s0, s1⟩, ⟨b0, b1, b2, b3, b4⟩, c0, c1, c2, c3, c4⟩ := HZ.out W' hSW
  first | (go_simp; done) | exact rfl | (go_simp; rfl) | (go_simp; omega)
 try simp only [pUt, pUn, sEt, sEz, sEs]
 refine tkn (i := 21) (v := .int .i64 m) (fun W' hSW => ?_) ?_
 ·obtain ⟨⟨s0, s1⟩, ⟨b0, b1, b2, b3, b4⟩, c0, c1, c2, c3, c4⟩ := HZ.out W' hSW
  first | (go_simp; done) | exact rfl | (go_simp; rfl) | (go_simp; omega)
 try simp only [pUt, pUn, sEt, sEz, sEs]
 have HLn := Lib.hid (H.out.later (HF.out.trans h56)).len
 rw [Hm.out] at HLn
 refine take_call (i := 18) rfl (by kernel_rfl) (by kernel_rfl) (fun K hK => ?_)
 go_simp
 refine HLn.out.mono ?_
 rintro e w7 ⟨rfl, rfl⟩
 go_wp2_with fail
 refine hK.out _ _ h56 (fun hS => ?_)
 clear hK K
 try simp only [pUt, pUn, sEt, sEz, sEs]
 clear HLn
 refine tkn (i := 22) (v := .bool false) (fun W' hSW => ?_) ?_
 ·obtain ⟨⟨s0, s1⟩, ⟨b0, b1, b2, b3, b4⟩, c0, c1, c2, c3, c4⟩ := HZ.out W' hSW
  first | (go_simp; done) | exact rfl | (go_simp; rfl) | (go_simp; omega)
 try simp only [pUt, pUn, sEt, sEz, sEs]
 refine tkn (i := 23) (v := .bool false) (fun W' hSW => ?_) ?_
 ·obtain ⟨⟨s0, s1⟩, ⟨b0, b1, b2, b3, b4⟩, c0, c1, c2, c3, c4⟩ := HZ.out W' hSW
  first | (go_simp; done) | exact rfl | (go_simp; rfl) | (go_simp; omega)
 try simp only [pUt, pUn, sEt, sEz, sEs]
 refine tkn (i := 24) (v := .bool false) (fun W' hSW => ?_) ?_
 ·obtain ⟨⟨s0, s1⟩, ⟨b0, b1, b2, b3, b4⟩, c0, c1, c2, c3, c4⟩ := HZ.out W' hSW
  first | (go_simp; done) | exact rfl | (go_simp; rfl) | (go_simp; omega)
 try simp only [pUt, pUn, sEt, sEz, sEs]
 refine tkn (i := 25) (v := .pointer (some ⟨qb, 0, none⟩)) (fun W' hSW => ?_) ?_
 ·obtain ⟨⟨s0, s1⟩, ⟨b0, b1, b2, b3, b4⟩, c0, c1, c2, c3, c4⟩ := HZ.out W' hSW
  first | (go_simp; done) | exact rfl | (go_simp; rfl) | (go_simp; omega)
 try simp only [pUt, pUn, sEt, sEz, sEs]
 refine tkn (i := 27) (v := .pointer (some ⟨SB, 0, none⟩)) (fun W' hSW => ?_) ?_
 ·obtain ⟨⟨s0, s1⟩, ⟨b0, b1, b2, b3, b4⟩, c0, c1, c2, c3, c4⟩ := HZ.out W' hSW
  first | (go_simp; done) | exact rfl | (go_simp; rfl) | (go_simp; omega)
 try simp only [pUt, pUn, sEt, sEz, sEs]
 refine tkn (i := 28) (v := .int .i64 n) (fun W' hSW => ?_) ?_
 ·obtain ⟨⟨s0, s1⟩, ⟨b0, b1, b2, b3, b4⟩, c0, c1, c2, c3, c4⟩ := HZ.out W' hSW
  first | (go_simp; done) | exact rfl | (go_simp; rfl) | (go_simp; omega)
 try simp only [pUt, pUn, sEt, sEz, sEs]
 refine tkn (i := 29) (v := .pointer (some ⟨SB, 1, none⟩)) (fun W' hSW => ?_) ?_
 ·obtain ⟨⟨s0, s1⟩, ⟨b0, b1, b2, b3, b4⟩, c0, c1, c2, c3, c4⟩ := HZ.out W' hSW
  first | (go_simp; done) | exact rfl | (go_simp; rfl) | (go_simp; omega)
 try simp only [pUt, pUn, sEt, sEz, sEs]
 refine tkn (i := 30) (v := .slice ra m rc) (fun W' hSW => ?_) ?_
 ·obtain ⟨⟨s0, s1⟩, ⟨b0, b1, b2, b3, b4⟩, c0, c1, c2, c3, c4⟩ := HZ.out W' hSW
  first | (go_simp; done) | exact rfl | (go_simp; rfl) | (go_simp; omega)
 try simp only [pUt, pUn, sEt, sEz, sEs]
 refine tkn (i := 31) (v := .int .i64 m) (fun W' hSW => ?_) ?_
 ·obtain ⟨⟨s0, s1⟩, ⟨b0, b1, b2, b3, b4⟩, c0, c1, c2, c3, c4⟩ := HZ.out W' hSW
  first | (go_simp; done) | exact rfl | (go_simp; rfl) | (go_simp; omega)
 try simp only [pUt, pUn, sEt, sEz, sEs]
 refine tkn (i := 32) (v := .int .i64 ((n - m : Nat) : Int)) (fun W' hSW => ?_) ?_
 ·obtain ⟨⟨s0, s1⟩, ⟨b0, b1, b2, b3, b4⟩, c0, c1, c2, c3, c4⟩ := HZ.out W' hSW
  first | (go_simp; done) | exact rfl | (go_simp; rfl) | (go_simp; omega)
 try simp only [pUt, pUn, sEt, sEz, sEs]
 have HRm := Lib.hid (H.out.later (HF.out.trans h56)).room
 rw [Hm.out] at HRm
 refine take_call (i := 26) rfl (by kernel_rfl) (by kernel_rfl) (fun K hK => ?_)
 go_simp
 refine HRm.out.mono ?_
 rintro e w7 ⟨rfl, hf7⟩
 have h57 : Fr0 none' w5 w7 := h56.trans hf7
 go_wp2_with fail
 refine hK.out _ _ h57 (fun hS => ?_)
 clear hK K
 try simp only [pUt, pUn, sEt, sEz, sEs]
 clear HRm h56 hf7
 refine tkn (i := 33) (v := .bool false) (fun W' hSW => ?_) ?_
 ·obtain ⟨⟨s0, s1⟩, ⟨b0, b1, b2, b3, b4⟩, c0, c1, c2, c3, c4⟩ := HZ.out W' hSW
  first | (go_simp; done) | exact rfl | (go_simp; rfl) | (go_simp; omega)
 try simp only [pUt, pUn, sEt, sEz, sEs]
 refine tkn (i := 34) (v := .bool false) (fun W' hSW => ?_) ?_
 ·obtain ⟨⟨s0, s1⟩, ⟨b0, b1, b2, b3, b4⟩, c0, c1, c2, c3, c4⟩ := HZ.out W' hSW
  first | (go_simp; done) | exact rfl | (go_simp; rfl) | (go_simp; omega)
 try simp only [pUt, pUn, sEt, sEz, sEs]
 refine wpAnyH_done (by kernel_rfl) ?_ _
 have HS := Lib.hid ((h57.block SB (Array.getElem?_eq_some_iff.1 HS.out).1 id).trans HS.out)
 have HRow := Lib.hid (ownsRow_fr0 HRow.out h57 (fun _ _ h => h))
 have HF := Lib.hid (HF.out.trans h57)
 have H5 := Lib.hid h57.size
 clear HZ HX HY hse hev wsub h57 Hve
 go_wp2_with fail
 have hblk : m = 0 ∨ ∃ g cur, va = some ⟨g, 0, none⟩ ∧ W4.heap.size ≤ g ∧ w7.heap[g]? = some (.cells cur 28 (0, 0)) ∧ m * 5 ≤ cur.size := by
  rcases HRow.out.2 with ⟨_, h0⟩ | ⟨g, cap, cur, hv, hb, hg, hn, _, hs, _⟩
  ·exact .inl h0
  ·injection hv with h1 _ _
   exact .inr ⟨g, cur, h1, hb, hg, by rw [hs]; exact Nat.mul_le_mul_right _ hn⟩
 have HB := Lib.hid hblk
 clear hblk HRow
 go_loopw [11, 62] (fun _ v62 wr => ∃ i : Nat, i ≤ m ∧ v62 = .int .i64 i ∧ Hid (m = 0 ∨ ∃ g cur, va = some ⟨g, 0, none⟩ ∧ W4.heap.size ≤ g ∧ wr.heap[g]? = some (.cells cur 28 (0, 0)) ∧ m * 5 ≤ cur.size) ∧ Hid (wr.heap[SB]? = some (.cells #[.int .i64 n, .slice ra m rc] 50 (0, 0))) ∧ Hid (Fr0 none' w wr)) (fun _ v62 _ => m - (Go.RowKit.intOf v62).toNat)
 case atStart => exact ⟨0, Nat.zero_le _, rfl, HB, HS, HF⟩
 case round =>
  obtain ⟨i, hi, rfl, HB, HS, HF⟩ := hrel
  by_cases hlt : i < m
  ·rcases HB.out with h0 | ⟨g, cur, rfl, hg, hb, hc⟩
   ·omega
   ·obtain ⟨v0, x0⟩ : ∃ v, wr.cell? ⟨g, i * 5, none⟩ = some v := ⟨_, by rw [cells_in hb]; exact Array.getElem?_eq_getElem (by omega)⟩
    obtain ⟨v1, x1⟩ : ∃ v, wr.cell? ⟨g, i * 5 + 1, none⟩ = some v := ⟨_, by rw [cells_in hb]; exact Array.getElem?_eq_getElem (by omega)⟩
    obtain ⟨v2, x2⟩ : ∃ v, wr.cell? ⟨g, i * 5 + 2, none⟩ = some v := ⟨_, by rw [cells_in hb]; exact Array.getElem?_eq_getElem (by omega)⟩
    obtain ⟨v3, x3⟩ : ∃ v, wr.cell? ⟨g, i * 5 + 3, none⟩ = some v := ⟨_, by rw [cells_in hb]; exact Array.getElem?_eq_getElem (by omega)⟩
    obtain ⟨v4, x4⟩ : ∃ v, wr.cell? ⟨g, i * 5 + 4, none⟩ = some v := ⟨_, by rw [cells_in hb]; exact Array.getElem?_eq_getElem (by omega)⟩
    have y0 := thaw_in hb (i * 5)
    have y1 := thaw_in hb (i * 5 + 1)
    have y2 := thaw_in hb (i * 5 + 2)
    have y3 := thaw_in hb (i * 5 + 3)
    have y4 := thaw_in hb (i * 5 + 4)
    have k1 : (0 : Int) ≤ (i : Int) := by omega
    have k2 : (i : Int) < (m : Int) := by omega
    have Hb := Lib.hid hb
    have Hg := Lib.hid hg
    have Hc := Lib.hid hc
    clear hb hg hc
    go_wp2_with fail
    have f8 : Fr0 (fun k => k = g) wr (((((wr.setCell ⟨g, i * 5, none⟩ (.int .i64 0)).setCell ⟨g, i * 5 + 1, none⟩ (.int .i64 0)).setCell ⟨g, i * 5 + 2, none⟩ (.int .i64 0)).setCell ⟨g, i * 5 + 3, none⟩ (.int .i64 (-5))).setCell ⟨g, i * 5 + 4, none⟩ (.int .i64 0)) := (((((Fr0.refl (fun k => k = g) wr).setCell (fun _ => rfl) _).setCell (fun _ => rfl) _).setCell (fun _ => rfl) _).setCell (fun _ => rfl) _).setCell (fun _ => rfl) _
    refine ⟨⟨i + 1, by omega, by go_num, .inr ⟨g, _, rfl, Hg.out, heap_set_cell (heap_set_cell (heap_set_cell (heap_set_cell (heap_set_cell Hb.out _) _) _) _) _, by simp only [Array.size_setIfInBounds]; exact Hc.out⟩, ?_, ?_⟩, by simp [Go.RowKit.intOf]; omega⟩
    ·exact (f8.block SB (Array.getElem?_eq_some_iff.1 HS.out).1 (fun e => by have := Hg.out; have := HW4.out.2; omega)).trans HS.out
    ·exact HF.out.trans' f8 (fun k hk e => by have := Hg.out; have := HW4.out.1; omega)
  ·have HE := Lib.hid (H.out.later HF.out)
   have s0 := cells_in HS.out 0
   have s1 := cells_in HS.out 1
   simp at s0 s1
   go_wp2_with fail
   refine wp_region_held_drew (S := fun W' => Fr0 none' wr W') (by kernel_rfl) ((Fr0.refl _ wr).drew) (fun hHeld => ?_)
   have HZ := Lib.hid (fun (W' : World) (hf : Fr0 none' wr W') => (show W'.cell? ⟨SB, 0, none⟩ = some (.int .i64 n) ∧ W'.cell? ⟨SB, 1, none⟩ = some (.slice ra m rc) from by
    have h1 := (hf.block SB (Array.getElem?_eq_some_iff.1 HS.out).1 id).trans HS.out
    exact ⟨by rw [cells_in h1]; rfl, by rw [cells_in h1]; rfl⟩))
   clear s0 s1
   refine tkn (i := 0) (v := .pointer (some ⟨qb, 0, none⟩)) (fun W' hSW => ?_) ?_
   ·obtain ⟨s0, s1⟩ := HZ.out W' hSW
    first | (go_simp; done) | exact rfl | (go_simp; rfl) | (go_simp; omega)
   try simp only [pUt, pUn, sEt, sEz, sEs]
   refine tkn (i := 2) (v := .pointer (some ⟨SB, 1, none⟩)) (fun W' hSW => ?_) ?_
   ·obtain ⟨s0, s1⟩ := HZ.out W' hSW
    first | (go_simp; done) | exact rfl | (go_simp; rfl) | (go_simp; omega)
   try simp only [pUt, pUn, sEt, sEz, sEs]
   refine tkn (i := 3) (v := .slice ra m rc) (fun W' hSW => ?_) ?_
   ·obtain ⟨s0, s1⟩ := HZ.out W' hSW
    first | (go_simp; done) | exact rfl | (go_simp; rfl) | (go_simp; omega)
   try simp only [pUt, pUn, sEt, sEz, sEs]
   have HAl := Lib.hid (HE.out.later hHeld).all
   refine take_call (i := 1) rfl (by kernel_rfl) (by kernel_rfl) (fun K hK => ?_)
   go_simp
   refine HAl.out.mono ?_
   rintro e w8 ⟨v8, rfl, hrow, hf8⟩
   have h8 : Fr0 none' wr w8 := hHeld.trans hf8
   obtain ⟨wa, wc, rfl, _, hwe⟩ := EsIn.of_own hrow
   rw [Hm.out] at hrow ⊢
   go_wp2_with fail
   refine hK.out _ _ h8 (fun hS => ?_)
   clear hK K
   try simp only [pUt, pUn, sEt, sEz, sEs]
   clear hrow hHeld hf8 HAl
   have HEq := Lib.hid (sameEs_any wa ra _ _ wc rc E E w8 Hm.out Hm.out (by omega) (by omega) hwe (HR.out.later (HF.out.trans h8)))
   rw [decide_eq_true rfl] at HEq
   refine take_call (i := 4) rfl (by kernel_rfl) (by kernel_rfl) (fun K hK => ?_)
   go_simp
   refine HEq.out.mono ?_
   rintro e w9 ⟨rfl, hf9⟩
   have h9 : Fr0 none' wr w9 := h8.trans hf9
   go_wp2_with fail
   refine hK.out _ _ h9 (fun hS => ?_)
   clear hK K
   try simp only [pUt, pUn, sEt, sEz, sEs]
   clear hf9 HEq h8 hwe
   refine tkn (i := 5) (v := .bool true) (fun W' hSW => ?_) ?_
   ·obtain ⟨s0, s1⟩ := HZ.out W' hSW
    first | (go_simp; done) | exact rfl | (go_simp; rfl) | (go_simp; omega)
   try simp only [pUt, pUn, sEt, sEz, sEs]
   refine wpAnyH_done (by kernel_rfl) ?_ _
   have HFF := Lib.hid (HF.out.trans h9)
   go_wp2_with fail
   go_ret
   exact ⟨rfl, HFF.out⟩
end Go.Proofs.YtmcgipilopfgoaaGreat
