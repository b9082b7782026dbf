/-
  The queue of events: what each function of the package does, and what the laws make of it.
-/
import Derived.Test.YtmcgipilopfgoaaGreatJb1
import Derived.Test.YtmcgipilopfgoaaGreatJa1
import Derived.Test.YtmcgipilopfgoaaGreatJa2
import Derived.Test.YtmcgipilopfgoaaGreatRows
import Derived.WalkKit
import Derived.ProofKit
import Derived.OpenShut
import Derived.ChangeMaps5
import Derived.Carry
import Derived.Deep.Slices
import Derived.Deep.Fields
import Derived.ChangeSame
import Derived.Lib.SmallJoins
set_option linter.unusedSimpArgs false
set_option linter.unusedVariables false

/-
  The queue: put.
-/
namespace Go.Proofs.YtmcgipilopfgoaaGreat
open Go Go.RowKit Go.ChangeMaps
attribute [local go_sem ↓] Go.wp_at_zero Go.wp_at_succ
attribute [local go_sem] Oper.semAt_some wide_fn wide_depth wide_fnR wide_depthR
variable {w : World} {qb sb pb hb ba eb mb n T : Nat} {hv : Value} {X : List Pd} {F : List Nat} {P : List Pl} {first : Int} {V : List Ev}

theorem flatEv_set5 {V : List Ev} {p : Nat} {y : Ev} (hy : V[p]? = some y) (t s q o v : Int) :
    (((((flatEv V).set (p * 5) (.int .i64 t)).set (p * 5 + 1) (.int .i64 s)).set (p * 5 + 2) (.int .i64 q)).set (p * 5 + 3) (.int .i64 o)).set (p * 5 + 4) (.int .i64 v) = flatEv (V.set p ⟨⟨t, s, q⟩, o, v⟩) := by
  have hl : p < V.length := (List.getElem?_eq_some_iff.1 hy).1
  have e0 := flat_set cev_len (x' := ⟨⟨t, y.key.source, y.key.seq⟩, y.to, y.value⟩) hy (j := 0) (by omega) (v := .int .i64 t) rfl
  have e1 := flat_set cev_len (P := V.set p ⟨⟨t, y.key.source, y.key.seq⟩, y.to, y.value⟩) (x' := ⟨⟨t, s, y.key.seq⟩, y.to, y.value⟩) (List.getElem?_set_self hl) (j := 1) (by omega) (v := .int .i64 s) rfl
  have e2 := flat_set cev_len (P := V.set p ⟨⟨t, s, y.key.seq⟩, y.to, y.value⟩) (x' := ⟨⟨t, s, q⟩, y.to, y.value⟩) (List.getElem?_set_self hl) (j := 2) (by omega) (v := .int .i64 q) rfl
  have e3 := flat_set cev_len (P := V.set p ⟨⟨t, s, q⟩, y.to, y.value⟩) (x' := ⟨⟨t, s, q⟩, o, y.value⟩) (List.getElem?_set_self hl) (j := 3) (by omega) (v := .int .i64 o) rfl
  have e4 := flat_set cev_len (P := V.set p ⟨⟨t, s, q⟩, o, y.value⟩) (x' := ⟨⟨t, s, q⟩, o, v⟩) (List.getElem?_set_self hl) (j := 4) (by omega) (v := .int .i64 v) rfl
  rw [List.set_set] at e1 e2 e3 e4
  unfold flatEv
  rw [Nat.add_zero] at e0
  rw [e0, e1, e2, e3, e4]
theorem ev_row5 {W : World} {eb p : Nat} {V : List Ev} {ty : TypeId} {y : Ev} (h : W.heap[eb]? = some (.cells (flatEv V).toArray ty (0, 0))) (hy : V[p]? = some y) (t s q o v : Int) :
    (((((W.setCell ⟨eb, p * 5, none⟩ (.int .i64 t)).setCell ⟨eb, p * 5 + 1, none⟩ (.int .i64 s)).setCell ⟨eb, p * 5 + 2, none⟩ (.int .i64 q)).setCell ⟨eb, p * 5 + 3, none⟩ (.int .i64 o)).setCell ⟨eb, p * 5 + 4, none⟩ (.int .i64 v)).heap[eb]? = some (.cells (flatEv (V.set p ⟨⟨t, s, q⟩, o, v⟩)).toArray ty (0, 0)) := by
  have h1 := heap_set_cell (o := p * 5) h (.int .i64 t)
  have h2 := heap_set_cell (o := p * 5 + 1) h1 (.int .i64 s)
  have h3 := heap_set_cell (o := p * 5 + 2) h2 (.int .i64 q)
  have h4 := heap_set_cell (o := p * 5 + 3) h3 (.int .i64 o)
  have h5 := heap_set_cell (o := p * 5 + 4) h4 (.int .i64 v)
  rw [h5]
  simp only [List.setIfInBounds_toArray]
  rw [flatEv_set5 hy]
/-- A queue's parts are apart. -/
structure Parts (qb sb pb hb ba eb mb : Nat) (hv : Value) : Prop where
  q : ¬ lfoot sb pb qb
  e : ¬ lfoot sb pb eb
  m : ¬ lfoot sb pb mb
  h : ∀ k, foot hb ba hv k → ¬ lfoot sb pb k
  eq : qb ≠ eb
  em : mb ≠ eb
  qm : qb ≠ mb
  he : ∀ k, foot hb ba hv k → k ≠ eb ∧ k ≠ mb ∧ k ≠ qb
theorem QIn.parts (h : QIn w qb sb pb hb ba eb mb hv n T X F P first V) : Parts qb sb pb hb ba eb mb hv := by
  have h1 := h.ne
  have h2 := h.nev
  simp only [List.nodup_cons, List.mem_cons, List.not_mem_nil, or_false, not_or, List.nodup_nil, and_true, not_false_eq_true] at h1 h2
  obtain ⟨⟨a1, a2, a3, a4, a5, a6⟩, ⟨b1, b2, b3, b4, b5⟩, ⟨c1, c2, c3, c4⟩, ⟨d1, d2, d3⟩, ⟨e1, e2⟩, f1⟩ := h1
  have key : ∀ k, foot hb ba hv k → (k ≠ qb ∧ k ≠ sb ∧ k ≠ pb ∧ k ≠ eb ∧ k ≠ mb) := by
    rintro k (rfl | rfl | hk)
    · exact ⟨fun e => a3 e.symm, fun e => b2 e.symm, fun e => c1 e.symm, d2, d3⟩
    · exact ⟨fun e => a4 e.symm, fun e => b3 e.symm, fun e => c2 e.symm, e1, e2⟩
    · obtain ⟨g1, g2, g3, g4, g5, g6, g7⟩ := h2 k hk
      exact ⟨g1, g2, g3, g6, g7⟩
  refine ⟨fun h => h.elim a1 a2, fun h => h.elim (fun e => b4 e.symm) (fun e => c3 e.symm), fun h => h.elim (fun e => b5 e.symm) (fun e => c4 e.symm), fun k hk => ?_, a5, fun e => f1 e.symm, a6, fun k hk => ?_⟩
  · obtain ⟨g1, g2, g3, g4, g5⟩ := key k hk
    exact fun h => h.elim g2 g3
  · obtain ⟨g1, g2, g3, g4, g5⟩ := key k hk
    exact ⟨g4, g5, g1⟩
set_option maxRecDepth 100000 in
theorem of_any (x : Ev) (w : World) : Calls Tryz.prog 64 #[evV x] w fun e w' => e = .returned (nameV x.name) ∧ Fr0 none' w w' := by
  unfold evV
  go_enter Tryz.func64, Tryz.ntmps64
  go_wp2_with fail
  obtain ⟨VV, hVV⟩ : ∃ VV, ((w.alloc (.cells #[.int .i64 x.key.time, .int .i64 x.key.source, .int .i64 x.key.seq, .int .i64 x.to, .int .i64 x.value] 28)).alloc (.cells #[.int .i64 x.key.source, .int .i64 x.key.seq] 115)) = VV := ⟨_, rfl⟩
  have hf : Fr0 none' w VV := by rw [← hVV]; exact ((Fr0.refl _ _).alloc _).alloc _
  have hb : VV.heap[w.heap.size + 1]? = some (.cells #[.int .i64 x.key.source, .int .i64 x.key.seq] 115 (0, 0)) := by
    rw [← hVV]
    have := World.alloc_heap_new (w.alloc (.cells #[.int .i64 x.key.time, .int .i64 x.key.source, .int .i64 x.key.seq, .int .i64 x.to, .int .i64 x.value] 28)) (.cells #[.int .i64 x.key.source, .int .i64 x.key.seq] 115)
    rwa [World.size_alloc] at this
  rw [hVV]
  have y0 := cells_in hb 0
  have y1 := cells_in hb 1
  simp at y0 y1
  exact bodyPost_ret (v := nameV x.name) (by simp [results, Tryz.results64, go_sem, y0, y1, nameV, Ev.name]) rfl ⟨rfl, hf⟩
set_option maxRecDepth 100000 in
set_option maxHeartbeats 1000000 in
theorem Qput_is {p : Nat} {x : Ev} (h : QIn w qb sb pb hb ba eb mb hv n T X (p :: F) P first V) (hr : RightE x) (hn : ∀ y ∈ X, y.1.name ≠ x.name) (hT : T < 4294967295) :
    Calls Tryz.prog 62 #[.pointer (some ⟨qb, 0, none⟩), evV x] w fun e w' => e = .returned (.tuple #[]) ∧ ∃ pl hv', P[p]? = some pl ∧ QIn w' qb sb pb hb ba eb mb hv' n (T + 1) (insX (x, p) X) F (P.set p ⟨pl.life + 1, true, -1⟩) pl.next (V.set p x) ∧ Fr0 (qfoot qb sb pb hb ba eb mb hv) w w' ∧ ∀ g, hv'.ownBlock = some g → hv.ownBlock = some g ∨ w.heap.size ≤ g := by
  obtain ⟨_, pl, hpl, _⟩ := h.ok.take x
  have H := Lib.hid h
  have Hpl := Lib.hid hpl
  have HS := Lib.hid (fun (W : World) (hf : Fr0 none' w W) => STake_is (h.sl.later hf) h.ok.chain (List.nodup_append.1 h.ok.nodup).1 hpl (fun p x hx => by have := h.ok.life p x hx; omega))
  have HC := Lib.hid (fun (W : World) (hf : Fr0 none' w W) => (h.fr0 hf (fun _ _ h => h)).c0)
  have c0 := HC.out (w.alloc (.cells #[.int .i64 x.key.time, .int .i64 x.key.source, .int .i64 x.key.seq, .int .i64 x.to, .int .i64 x.value] 28)) ((Fr0.refl _ _).alloc _)
  clear h hpl
  unfold evV
  go_enter Tryz.func62, Tryz.ntmps62
  go_wp2_with fail
  obtain ⟨q, hq⟩ : ∃ q, w.heap.size = q := ⟨_, rfl⟩
  obtain ⟨W1, hW1⟩ : ∃ W, w.alloc (.cells #[.int .i64 x.key.time, .int .i64 x.key.source, .int .i64 x.key.seq, .int .i64 x.to, .int .i64 x.value] 28) = W := ⟨_, rfl⟩
  have hb1 := Lib.hid (show W1.heap[q]? = some (.cells #[.int .i64 x.key.time, .int .i64 x.key.source, .int .i64 x.key.seq, .int .i64 x.to, .int .i64 x.value] 28 (0, 0)) by rw [← hW1, ← hq]; exact World.alloc_heap_new w _)
  have F1 := Lib.hid (show Fr0 none' w W1 by rw [← hW1]; exact (Fr0.refl _ _).alloc _)
  rw [hW1]
  try rw [hq]
  have Hq := Lib.hid hq
  clear hW1 hq
  refine (HS.out _ F1.out).mono ?_
  rintro e W2 ⟨rfl, hsl, hf2⟩
  have Hsl := Lib.hid hsl
  have F2 := Lib.hid hf2
  clear hsl hf2 c0
  go_wp2_with fail
  obtain ⟨q2, hq2⟩ : ∃ q2, W2.heap.size = q2 := ⟨_, rfl⟩
  obtain ⟨W3, hW3⟩ : ∃ W, W2.alloc (.cells #[.int .i64 p, .int .i64 ((pl.life : Int) + 1)] 112) = W := ⟨_, rfl⟩
  have hb2 := Lib.hid (show W3.heap[q2]? = some (.cells #[.int .i64 p, .int .i64 ((pl.life : Int) + 1)] 112 (0, 0)) by rw [← hW3, ← hq2]; exact World.alloc_heap_new W2 _)
  have F3 := Lib.hid (show Fr0 none' W2 W3 by rw [← hW3]; exact (Fr0.refl _ _).alloc _)
  rw [hW3]
  try rw [hq2]
  have Hq2 := Lib.hid hq2
  clear hW3 hq2
  have F13 := Lib.hid (F2.out.trans' F3.out (fun _ _ h => h.elim))
  have f3 : Fr0 (lfoot sb pb) w W3 := (F1.out.mono (fun _ _ h => h.elim)).trans (F2.out.trans' F3.out (fun _ _ h => h.elim))
  have HP := Lib.hid H.out.parts
  have hl := H.out.lt
  have hd3 := Lib.hid ((f3.block qb (hl _ (.inl rfl)) HP.out.q).trans H.out.hd)
  have ev3 := Lib.hid ((f3.block eb (hl _ (.inr (.inr (.inr (.inl rfl))))) HP.out.e).trans H.out.ev)
  have nm3 := Lib.hid (H.out.nm.fr0 f3 HP.out.m)
  have hp3 := Lib.hid (H.out.hp.fr0 f3 HP.out.h)
  have sl3 := Lib.hid (Hsl.out.later F3.out)
  have hpn : p < n := H.out.ok.flt List.mem_cons_self
  obtain ⟨y, hy⟩ : ∃ y, V[p]? = some y := ⟨_, List.getElem?_eq_getElem (by rw [H.out.vl]; exact hpn)⟩
  have HY := Lib.hid hy
  have hbx := (F13.out.block q (Array.getElem?_eq_some_iff.1 hb1.out).1 (fun h => by have := H.out.sl.lt q h; have := Hq.out; omega)).trans hb1.out
  have Hbx := Lib.hid hbx
  have F3w := Lib.hid f3
  have x0 := cells_in hbx 0
  have x1 := cells_in hbx 1
  have x2 := cells_in hbx 2
  have x3 := cells_in hbx 3
  have x4 := cells_in hbx 4
  simp at x0 x1 x2 x3 x4
  have r0 := cells_in hb2.out 0
  have r1 := cells_in hb2.out 1
  simp at r0 r1
  have c2 : W3.cell? ⟨qb, 2, none⟩ = some (.slice (some ⟨eb, 0, none⟩) n n) := by rw [cells_in hd3.out]; rfl
  have y0 : W3.cell? ⟨eb, p * 5, none⟩ = some (.int .i64 y.key.time) := by rw [cells_in ev3.out, List.getElem?_toArray]; exact flat_some cev_len hy (j := 0) (by omega) rfl
  have y1 : W3.cell? ⟨eb, p * 5 + 1, none⟩ = some (.int .i64 y.key.source) := by rw [cells_in ev3.out, List.getElem?_toArray]; exact flat_some cev_len hy (j := 1) (by omega) rfl
  have y2 : W3.cell? ⟨eb, p * 5 + 2, none⟩ = some (.int .i64 y.key.seq) := by rw [cells_in ev3.out, List.getElem?_toArray]; exact flat_some cev_len hy (j := 2) (by omega) rfl
  have y3 : W3.cell? ⟨eb, p * 5 + 3, none⟩ = some (.int .i64 y.to) := by rw [cells_in ev3.out, List.getElem?_toArray]; exact flat_some cev_len hy (j := 3) (by omega) rfl
  have y4 : W3.cell? ⟨eb, p * 5 + 4, none⟩ = some (.int .i64 y.value) := by rw [cells_in ev3.out, List.getElem?_toArray]; exact flat_some cev_len hy (j := 4) (by omega) rfl
  have t0 := thaw_in ev3.out (p * 5)
  have t1 := thaw_in ev3.out (p * 5 + 1)
  have t2 := thaw_in ev3.out (p * 5 + 2)
  have t3 := thaw_in ev3.out (p * 5 + 3)
  have t4 := thaw_in ev3.out (p * 5 + 4)
  have z1 : (0 : Int) ≤ (p : Int) := by omega
  have z2 : (p : Int) < (n : Int) := by omega
  clear f3 hl hpn hy hbx
  go_still_tail 8, (by kernel_rfl)
  change wpList _ _ _ _ _ W3.drew
  go_wp2_with fail
  obtain ⟨W4, hW4⟩ : ∃ W, (((((W3.setCell ⟨eb, p * 5, none⟩ (.int .i64 x.key.time)).setCell ⟨eb, p * 5 + 1, none⟩ (.int .i64 x.key.source)).setCell ⟨eb, p * 5 + 2, none⟩ (.int .i64 x.key.seq)).setCell ⟨eb, p * 5 + 3, none⟩ (.int .i64 x.to)).setCell ⟨eb, p * 5 + 4, none⟩ (.int .i64 x.value)) = W := ⟨_, rfl⟩
  rw [hW4]
  have ev4 := Lib.hid (show W4.heap[eb]? = some (.cells (flatEv (V.set p x)).toArray 28 (0, 0)) by rw [← hW4]; exact ev_row5 ev3.out HY.out _ _ _ _ _)
  have f4 : Fr0 (fun k => k = eb) W3 W4 := by rw [← hW4]; exact (((((Fr0.refl (fun k => k = eb) W3).setCell (fun _ => rfl) _).setCell (fun _ => rfl) _).setCell (fun _ => rfl) _).setCell (fun _ => rfl) _).setCell (fun _ => rfl) _
  have hqe : q ≠ eb := fun e => by have := H.out.lt eb (.inr (.inr (.inr (.inl rfl)))); have := Hq.out; omega
  have hq2e : q2 ≠ eb := fun e => by have := H.out.lt eb (.inr (.inr (.inr (.inl rfl)))); have := F1.out.size; have := F2.out.size; have := Hq2.out; omega
  have hd4 := Lib.hid ((f4.block qb (Array.getElem?_eq_some_iff.1 hd3.out).1 HP.out.eq).trans hd3.out)
  have nm4 := Lib.hid (nm3.out.fr0 f4 HP.out.em)
  have hp4 := Lib.hid (hp3.out.fr0 f4 (fun k hk => (HP.out.he k hk).1))
  have sl4 := Lib.hid (sl3.out.fr0 f4 (fun k hk e => HP.out.e (e ▸ hk)))
  have bx4 := Lib.hid ((f4.block q (Array.getElem?_eq_some_iff.1 Hbx.out).1 hqe).trans Hbx.out)
  have br4 := Lib.hid ((f4.block q2 (Array.getElem?_eq_some_iff.1 hb2.out).1 hq2e).trans hb2.out)
  have F4 := Lib.hid f4
  clear hW4 f4 x0 x1 x2 x3 x4 r0 r1 c2 y0 y1 y2 y3 y4 t0 t1 t2 t3 t4 z1 z2 hqe hq2e
  have Skey := Lib.hid (show ∀ W', (∀ k, k = qb ∨ k = q ∨ k = q2 → W'.heap[k]? = W4.heap[k]?) → W'.cell? ⟨qb, 3, none⟩ = some (.map (some mb)) ∧ EAt W' q 0 x ∧ W'.cell? ⟨q2, 0, none⟩ = some (.int .i64 p) ∧ W'.cell? ⟨q2, 1, none⟩ = some (.int .i64 ((pl.life : Int) + 1)) from fun W' hf => by
    have g1 := (hf qb (.inl rfl)).trans hd4.out
    have g2 := (hf q (.inr (.inl rfl))).trans bx4.out
    have g3 := (hf q2 (.inr (.inr rfl))).trans br4.out
    refine ⟨by rw [cells_in g1]; rfl, ⟨?_, ?_, ?_, ?_, ?_⟩, by rw [cells_in g3]; rfl, by rw [cells_in g3]; rfl⟩ <;> rw [cells_in g2] <;> rfl)
  refine wp_region_held_drew (S := fun W' => W'.cell? ⟨qb, 3, none⟩ = some (.map (some mb)) ∧ EAt W' q 0 x ∧ W'.cell? ⟨q2, 0, none⟩ = some (.int .i64 p) ∧ W'.cell? ⟨q2, 1, none⟩ = some (.int .i64 ((pl.life : Int) + 1))) (by kernel_rfl) (Skey.out _ (fun _ _ => rfl)) (fun hHeld => ?_)
  refine take_on (i := 0) (v := .pointer (some ⟨qb, 0, none⟩)) rfl (by kernel_rfl) (by kernel_rfl) (by kernel_rfl) (fun _ _ _ h => h) (by kernel_rfl) (fun W' hSW => ?_) (by assumption) ?_
  · (try dsimp only at hSW)
    first | (go_simp; done) | (obtain ⟨s0, ⟨s1, s2, s3, s4, s5⟩, s6, s7⟩ := hSW; (try simp only [Nat.zero_add] at s1 s2 s3 s4 s5); (try simp only [evV]); go_simp; done) | exact rfl | (go_simp; rfl) | (go_simp; omega)
  try simp only [Act.put, List.setIfInBounds_toArray, List.set_cons_zero, List.set_cons_succ]
  refine take_on (i := 1) (v := .pointer (some ⟨qb, 0, none⟩)) rfl (by kernel_rfl) (by kernel_rfl) (by kernel_rfl) (fun _ _ _ h => h) (by kernel_rfl) (fun W' hSW => ?_) (by assumption) ?_
  · (try dsimp only at hSW)
    first | (go_simp; done) | (obtain ⟨s0, ⟨s1, s2, s3, s4, s5⟩, s6, s7⟩ := hSW; (try simp only [Nat.zero_add] at s1 s2 s3 s4 s5); (try simp only [evV]); go_simp; done) | exact rfl | (go_simp; rfl) | (go_simp; omega)
  try simp only [Act.put, List.setIfInBounds_toArray, List.set_cons_zero, List.set_cons_succ]
  refine take_on (i := 2) (v := .pointer (some ⟨qb, 3, none⟩)) rfl (by kernel_rfl) (by kernel_rfl) (by kernel_rfl) (fun _ _ _ h => h) (by kernel_rfl) (fun W' hSW => ?_) (by assumption) ?_
  · (try dsimp only at hSW)
    first | (go_simp; done) | (obtain ⟨s0, ⟨s1, s2, s3, s4, s5⟩, s6, s7⟩ := hSW; (try simp only [Nat.zero_add] at s1 s2 s3 s4 s5); (try simp only [evV]); go_simp; done) | exact rfl | (go_simp; rfl) | (go_simp; omega)
  try simp only [Act.put, List.setIfInBounds_toArray, List.set_cons_zero, List.set_cons_succ]
  refine take_on (i := 3) (v := .map (some mb)) rfl (by kernel_rfl) (by kernel_rfl) (by kernel_rfl) (fun _ _ _ h => h) (by kernel_rfl) (fun W' hSW => ?_) (by assumption) ?_
  · (try dsimp only at hSW)
    first | (go_simp; done) | (obtain ⟨s0, ⟨s1, s2, s3, s4, s5⟩, s6, s7⟩ := hSW; (try simp only [Nat.zero_add] at s1 s2 s3 s4 s5); (try simp only [evV]); go_simp; done) | exact rfl | (go_simp; rfl) | (go_simp; omega)
  try simp only [Act.put, List.setIfInBounds_toArray, List.set_cons_zero, List.set_cons_succ]
  refine take_on (i := 4) (v := evV x) rfl (by kernel_rfl) (by kernel_rfl) (by kernel_rfl) (fun _ _ _ h => h) (by kernel_rfl) (fun W' hSW => ?_) (by assumption) ?_
  · (try dsimp only at hSW)
    first | (go_simp; done) | (obtain ⟨s0, ⟨s1, s2, s3, s4, s5⟩, s6, s7⟩ := hSW; (try simp only [Nat.zero_add] at s1 s2 s3 s4 s5); (try simp only [evV]); go_simp; done) | exact rfl | (go_simp; rfl) | (go_simp; omega)
  try simp only [Act.put, List.setIfInBounds_toArray, List.set_cons_zero, List.set_cons_succ]
  refine take_on (i := 6) (v := .agg #[.int .i64 p, .int .i64 ((pl.life : Int) + 1)]) rfl (by kernel_rfl) (by kernel_rfl) (by kernel_rfl) (fun _ _ _ h => h) (by kernel_rfl) (fun W' hSW => ?_) (by assumption) ?_
  · (try dsimp only at hSW)
    first | (go_simp; done) | (obtain ⟨s0, ⟨s1, s2, s3, s4, s5⟩, s6, s7⟩ := hSW; (try simp only [Nat.zero_add] at s1 s2 s3 s4 s5); (try simp only [evV]); go_simp; done) | exact rfl | (go_simp; rfl) | (go_simp; omega)
  try simp only [Act.put, List.setIfInBounds_toArray, List.set_cons_zero, List.set_cons_succ]
  refine take_call (i := 5) rfl (by kernel_rfl) (by kernel_rfl) (fun K hK => ?_)
  go_simp
  refine (of_any x _).mono ?_
  rintro e w5 ⟨rfl, hf5⟩
  have hlt4 : ∀ k, k = qb ∨ k = q ∨ k = q2 → k < W4.heap.size := fun k hk => by
    rcases hk with rfl | rfl | rfl
    · exact (Array.getElem?_eq_some_iff.1 hd4.out).1
    · exact (Array.getElem?_eq_some_iff.1 bx4.out).1
    · exact (Array.getElem?_eq_some_iff.1 br4.out).1
  have f45 : Fr0 none' W4 w5 := (Fr0.refl none' W4).drew.drew.trans hf5
  have F45 := Lib.hid f45
  refine hK.out _ _ (Skey.out _ (fun k hk => f45.block k (hlt4 k hk) id)) (fun hHeld2 => ?_)
  clear hK K hf5
  try simp only [Act.put, List.setIfInBounds_toArray, List.set_cons_zero, List.set_cons_succ]
  have hnp : ∀ y ∈ X, y.2 ≠ p := fun y hy e => (List.nodup_cons.1 H.out.ok.nodup).1 (List.mem_append_right _ (List.mem_map.2 ⟨y, hy, e⟩))
  have hpl' : (P.set p ⟨pl.life + 1, true, -1⟩)[p]? = some ⟨pl.life + 1, true, -1⟩ := List.getElem?_set_self (List.getElem?_eq_some_iff.1 Hpl.out).1
  have nm5 : NamesIs Tryz.prog 115 w5 mb X (lifeP (P.set p ⟨pl.life + 1, true, -1⟩)) := (nm4.out.fr0 f45 id).congr (fun y hy => by
    unfold lifeP
    rw [List.getElem?_set_ne (Ne.symm (hnp y hy))])
  obtain ⟨hi1, hi2⟩ := rightE_i64 hr
  obtain ⟨kl, hkl⟩ := name_key_is hi1 hi2
  obtain ⟨w6, hrun, nm6, f56⟩ := nm5.put (Go.Maps.Keyed.of_law name_law) Tryz.underlying67 (x, p) hn (by have := H.out.ok.count; have := H.out.n256; unfold maxLen; omega) hkl
  rw [lifeP_at hpl'] at hrun
  have hrun2 : (Instr.mapUpdate 67 (.map (some mb)) (nameV x.name) (.agg #[.int .i64 p, .int .i64 ((pl.life : Int) + 1)])).run Tryz.prog w5 = .ok () w6 := hrun
  have Nm6 := Lib.hid nm6
  have F56 := Lib.hid f56
  have hk6 : ∀ k, k = qb ∨ k = q ∨ k = q2 → w6.heap[k]? = W4.heap[k]? := fun k hk => by
    refine (f56.block k (Nat.lt_of_lt_of_le (hlt4 k hk) f45.size) (fun e => ?_)).trans (f45.block k (hlt4 k hk) id)
    have h1 := H.out.lt mb (.inr (.inr (.inr (.inr (.inl rfl)))))
    have h2 := Hq.out
    have h3 := Hq2.out
    have h4 := F1.out.size
    have h5 := F2.out.size
    rcases hk with rfl | rfl | rfl
    · exact HP.out.qm e
    · omega
    · omega
  refine take_call (i := 7) rfl (by kernel_rfl) (by kernel_rfl) (fun K hK => ?_)
  clear hrun nm6 f56 nm5 hnp hpl' hkl hi1 hi2 f45
  go_simp
  refine hK.out _ _ (Skey.out _ hk6) (fun hHeld3 => ?_)
  clear hK K hrun2
  try simp only [Act.put, List.setIfInBounds_toArray, List.set_cons_zero, List.set_cons_succ]
  refine wpAnyH_done (by kernel_rfl) ?_ _
  obtain ⟨_, ⟨x0, x1, x2, x3, x4⟩, r0, r1⟩ := hHeld3
  have Hk6 := Lib.hid hk6
  clear hHeld hHeld2 hk6
  simp only [Nat.zero_add] at x0 x1 x2 x3 x4
  go_wp2_with fail
  have hd6 := (Hk6.out qb (.inl rfl)).trans hd4.out
  have c1 : w6.cell? ⟨qb, 1, none⟩ = some (.pointer (some ⟨hb, 0, none⟩)) := by rw [cells_in hd6]; rfl
  have hnm : ∀ k, k = mb → ¬ foot hb ba hv k := fun k e hk => (HP.out.he k hk).2.1 e
  have hp6 : HeapIs w6.drew hb ba hv n (X.map entX) := ((hp4.out.fr0 F45.out (fun _ _ h => h)).fr0 F56.out (fun k hk e => hnm k e hk)).later0 (Fr0.refl none' w6).drew
  have hpn : p < n := H.out.ok.flt List.mem_cons_self
  have her : errP n (X.map entX) (p : Int) = 6 := by
    unfold errP
    rw [if_neg (by omega), if_pos]
    rw [look_none]
    intro z hz
    obtain ⟨y, hy, rfl⟩ := List.mem_map.1 hz
    show y.2 ≠ _
    rw [Int.toNat_natCast]
    exact fun e => (List.nodup_cons.1 H.out.ok.nodup).1 (List.mem_append_right _ (List.mem_map.2 ⟨y, hy, e⟩))
  have HPut := Put_is hp6 (p : Int) x.key
  rw [show putL n (X.map entX) (p : Int) x.key = insL ⟨x.key, p⟩ (X.map entX) by unfold putL; rw [if_pos her, Int.toNat_natCast], show putE n (X.map entX) (p : Int) = 0 by unfold putE; rw [her]; rfl] at HPut
  have HPut := Lib.hid HPut
  clear hd6 hp6 her hpn
  go_still_tail 8, (by kernel_rfl)
  change wpList _ _ _ _ _ w6.drew
  go_wp2_with fail
  refine HPut.out.mono ?_
  rintro e w7 ⟨rfl, hv', hp7, hs7⟩
  have f7 := hs7.fr.to0
  have f67 : Fr0 (foot hb ba hv) w6 w7 := (Fr0.refl (foot hb ba hv) w6).drew.trans f7
  have qn : ¬ foot hb ba hv qb := fun hk => (HP.out.he _ hk).2.2 rfl
  have en : ¬ foot hb ba hv eb := fun hk => (HP.out.he _ hk).1 rfl
  have mn : ¬ foot hb ba hv mb := fun hk => (HP.out.he _ hk).2.1 rfl
  have q6 := (Hk6.out qb (.inl rfl)).trans hd4.out
  have q7 : w7.heap[qb]? = w.heap[qb]? := (f67.block qb (Array.getElem?_eq_some_iff.1 q6).1 qn).trans (q6.trans H.out.hd.symm)
  have e6 : w6.heap[eb]? = some (.cells (flatEv (V.set p x)).toArray 28 (0, 0)) := (F56.out.block eb (Nat.lt_of_lt_of_le (Array.getElem?_eq_some_iff.1 ev4.out).1 F45.out.size) (fun e => HP.out.em e.symm)).trans ((F45.out.block eb (Array.getElem?_eq_some_iff.1 ev4.out).1 id).trans ev4.out)
  have e7 := (f67.block eb (Array.getElem?_eq_some_iff.1 e6).1 en).trans e6
  have nm7 := Nm6.out.fr0 f67 mn
  have sl7 := ((sl4.out.later F45.out).fr0 F56.out (fun k hk e => HP.out.m (e ▸ hk))).fr0 f67 (fun k hk hf => HP.out.h k hf hk)
  have hsz : w.heap.size ≤ w6.heap.size := Nat.le_trans F3w.out.size (Nat.le_trans F4.out.size (Nat.le_trans F45.out.size F56.out.size))
  have own7 : ∀ g, hv'.ownBlock = some g → hv.ownBlock = some g ∨ w.heap.size ≤ g := fun g hg => (hs7.own g hg).imp id (fun h => Nat.le_trans hsz h)
  have hfin := Lib.hid (H.out.added (W := w7) (hv' := hv') Hpl.out hr hn q7 sl7 hp7 e7 nm7 own7)
  have hfr := Lib.hid (show Fr0 (qfoot qb sb pb hb ba eb mb hv) w w7 from ((((F3w.out.mono (fun k _ hk => by rcases hk with rfl | rfl; exact .inr (.inl rfl); exact .inr (.inr (.inl rfl)))).trans (F4.out.mono (fun k _ hk => .inr (.inr (.inr (.inl hk)))))).trans (F45.out.mono (fun _ _ h => h.elim))).trans (F56.out.mono (fun k _ hk => .inr (.inr (.inr (.inr (.inl hk))))))).trans (f67.mono (fun k _ hk => .inr (.inr (.inr (.inr (.inr hk)))))))
  have Own7 := Lib.hid own7
  clear q6 q7 e6 e7 nm7 sl7 hsz own7 f67 f7 qn en mn hp7 hs7
  go_wp2_with fail
  go_end0
  exact ⟨rfl, pl, hv', Hpl.out, hfin.out, hfr.out, Own7.out⟩
end Go.Proofs.YtmcgipilopfgoaaGreat

/-
  The queue: remove.
-/
namespace Go.Proofs.YtmcgipilopfgoaaGreat
open Go Go.RowKit Go.ChangeMaps
attribute [local go_sem ↓] Go.wp_at_zero Go.wp_at_succ
attribute [local go_sem] Oper.semAt_some wide_fn wide_depth wide_fnR wide_depthR
variable {w : World} {qb sb pb hb ba eb mb n T : Nat} {hv : Value} {X : List Pd} {F : List Nat} {P : List Pl} {first : Int} {V : List Ev}

set_option maxRecDepth 100000 in
set_option maxHeartbeats 1000000 in
theorem Qremove_is {y : Pd} {pl : Pl} (h : QIn w qb sb pb hb ba eb mb hv n T X F P first V) (hy : y ∈ X) (hpl : P[y.2]? = some pl) (hT : T < 4294967296) :
    Calls Tryz.prog 63 #[.pointer (some ⟨qb, 0, none⟩), .agg #[.int .i64 y.2, .int .i64 pl.life]] w fun e w' => e = .returned (evV y.1) ∧ ∃ hv', QIn w' qb sb pb hb ba eb mb hv' n T (delX y.2 X) (y.2 :: F) (P.set y.2 ⟨pl.life, false, first⟩) y.2 (V.set y.2 noEv) ∧ Fr0 (qfoot qb sb pb hb ba eb mb hv) w w' ∧ ∀ g, hv'.ownBlock = some g → hv.ownBlock = some g ∨ w.heap.size ≤ g := by
  obtain ⟨x, p⟩ := y
  have hlife : pl.life < 4294967296 := Nat.lt_of_le_of_lt (h.ok.life p pl hpl) hT
  have htk : pl.taken = true := by
    obtain ⟨z, h1, h2⟩ := h.ok.tk _ hy
    rw [hpl] at h1
    cases h1
    exact h2
  have hvx := h.vx _ hy
  have H := Lib.hid h
  have Hy := Lib.hid hy
  have Hpl := Lib.hid hpl
  have Htk := Lib.hid htk
  have Hlf := Lib.hid hlife
  have Hvx := Lib.hid hvx
  have HP := Lib.hid h.parts
  have hpn : p < n := h.ok.xlt hy
  have Hpn := Lib.hid hpn
  simp only at hpl hvx ⊢
  clear h hy hpl htk hvx hlife
  unfold evV
  go_enter Tryz.func63, Tryz.ntmps63
  go_wp2_with fail
  obtain ⟨q2, hq2⟩ : ∃ q2, w.heap.size = q2 := ⟨_, rfl⟩
  obtain ⟨W1, hW1⟩ : ∃ W, ((w.alloc (.cells #[.int .i64 p, .int .i64 pl.life] 112)).alloc (.cells #[.int .i64 0, .int .i64 0, .int .i64 0, .int .i64 0, .int .i64 0] 28)) = W := ⟨_, rfl⟩
  have br1 := Lib.hid (show W1.heap[q2]? = some (.cells #[.int .i64 p, .int .i64 pl.life] 112 (0, 0)) by rw [← hW1, ← hq2]; exact (Below.heap_alloc _ _ _ (by simp)).trans (World.alloc_heap_new w _))
  have bo1 := Lib.hid (show W1.heap[q2 + 1]? = some (.cells #[.int .i64 0, .int .i64 0, .int .i64 0, .int .i64 0, .int .i64 0] 28 (0, 0)) by rw [← hW1, ← hq2]; have := World.alloc_heap_new (w.alloc (.cells #[.int .i64 p, .int .i64 pl.life] 112)) (.cells #[.int .i64 0, .int .i64 0, .int .i64 0, .int .i64 0, .int .i64 0] 28); rwa [World.size_alloc] at this)
  have F1 := Lib.hid (show Fr0 none' w W1 by rw [← hW1]; exact ((Fr0.refl _ _).alloc _).alloc _)
  have Hz1 := Lib.hid (show W1.heap.size = q2 + 2 by rw [← hW1, ← hq2]; simp)
  rw [hW1]
  try rw [hq2]
  have Hq2 := Lib.hid hq2
  clear hW1 hq2
  have h1 := H.out.fr0 F1.out (fun _ _ h => h)
  have H1 := Lib.hid h1
  have Skey := Lib.hid (show ∀ W', (∀ k, k = qb ∨ k = eb ∨ k = q2 → W'.heap[k]? = W1.heap[k]?) → W'.cell? ⟨qb, 2, none⟩ = some (.slice (some ⟨eb, 0, none⟩) n n) ∧ EAt W' eb (p * 5) x ∧ W'.cell? ⟨q2, 0, none⟩ = some (.int .i64 p) from fun W' hf => by
    refine ⟨?_, ?_, ?_⟩
    · rw [cells_in ((hf qb (.inl rfl)).trans H1.out.hd)]; rfl
    · obtain ⟨e0, e1, e2, e3, e4⟩ := H1.out.event Hvx.out
      have hb' := hf eb (.inr (.inl rfl))
      exact ⟨(World.cell?_of_block (w := W1) hb').trans e0, (World.cell?_of_block (w := W1) hb').trans e1, (World.cell?_of_block (w := W1) hb').trans e2, (World.cell?_of_block (w := W1) hb').trans e3, (World.cell?_of_block (w := W1) hb').trans e4⟩
    · rw [cells_in ((hf q2 (.inr (.inr rfl))).trans br1.out)]; rfl)
  have hlt1 : ∀ k, k = qb ∨ k = eb ∨ k = q2 → k < W1.heap.size := fun k hk => by
    rcases hk with rfl | rfl | rfl
    · exact h1.lt _ (.inl rfl)
    · exact h1.lt _ (.inr (.inr (.inr (.inl rfl))))
    · exact (Array.getElem?_eq_some_iff.1 br1.out).1
  have Hlt1 := Lib.hid hlt1
  have z1 : (0 : Int) ≤ (p : Int) := by omega
  have z2 : (p : Int) < (n : Int) := by omega
  clear h1 hpn hlt1
  refine wp_region_held_drew (S := fun W' => W'.cell? ⟨qb, 2, none⟩ = some (.slice (some ⟨eb, 0, none⟩) n n) ∧ EAt W' eb (p * 5) x ∧ W'.cell? ⟨q2, 0, none⟩ = some (.int .i64 p)) (by kernel_rfl) (Skey.out _ (fun _ _ => rfl)) (fun hHeld => ?_)
  refine take_on (i := 0) (v := .pointer (some ⟨qb, 0, none⟩)) rfl (by kernel_rfl) (by kernel_rfl) (by kernel_rfl) (fun _ _ _ h => h) (by kernel_rfl) (fun W' hSW => ?_) (by assumption) ?_
  · (try dsimp only at hSW)
    first | (go_simp; done) | (obtain ⟨s0, ⟨s1, s2, s3, s4, s5⟩, s6⟩ := hSW; (try simp only [Nat.zero_add] at s1 s2 s3 s4 s5); (try simp only [evV]); go_simp; done) | exact rfl | (go_simp; rfl) | (go_simp; omega)
  try simp only [Act.put, List.setIfInBounds_toArray, List.set_cons_zero, List.set_cons_succ]
  refine take_on (i := 1) (v := .pointer (some ⟨qb, 0, none⟩)) rfl (by kernel_rfl) (by kernel_rfl) (by kernel_rfl) (fun _ _ _ h => h) (by kernel_rfl) (fun W' hSW => ?_) (by assumption) ?_
  · (try dsimp only at hSW)
    first | (go_simp; done) | (obtain ⟨s0, ⟨s1, s2, s3, s4, s5⟩, s6⟩ := hSW; (try simp only [Nat.zero_add] at s1 s2 s3 s4 s5); (try simp only [evV]); go_simp; done) | exact rfl | (go_simp; rfl) | (go_simp; omega)
  try simp only [Act.put, List.setIfInBounds_toArray, List.set_cons_zero, List.set_cons_succ]
  refine take_on (i := 2) (v := .pointer (some ⟨qb, 2, none⟩)) rfl (by kernel_rfl) (by kernel_rfl) (by kernel_rfl) (fun _ _ _ h => h) (by kernel_rfl) (fun W' hSW => ?_) (by assumption) ?_
  · (try dsimp only at hSW)
    first | (go_simp; done) | (obtain ⟨s0, ⟨s1, s2, s3, s4, s5⟩, s6⟩ := hSW; (try simp only [Nat.zero_add] at s1 s2 s3 s4 s5); (try simp only [evV]); go_simp; done) | exact rfl | (go_simp; rfl) | (go_simp; omega)
  try simp only [Act.put, List.setIfInBounds_toArray, List.set_cons_zero, List.set_cons_succ]
  refine take_on (i := 3) (v := .slice (some ⟨eb, 0, none⟩) n n) rfl (by kernel_rfl) (by kernel_rfl) (by kernel_rfl) (fun _ _ _ h => h) (by kernel_rfl) (fun W' hSW => ?_) (by assumption) ?_
  · (try dsimp only at hSW)
    first | (go_simp; done) | (obtain ⟨s0, ⟨s1, s2, s3, s4, s5⟩, s6⟩ := hSW; (try simp only [Nat.zero_add] at s1 s2 s3 s4 s5); (try simp only [evV]); go_simp; done) | exact rfl | (go_simp; rfl) | (go_simp; omega)
  try simp only [Act.put, List.setIfInBounds_toArray, List.set_cons_zero, List.set_cons_succ]
  refine take_on (i := 4) (v := .pointer (some ⟨q2, 0, none⟩)) rfl (by kernel_rfl) (by kernel_rfl) (by kernel_rfl) (fun _ _ _ h => h) (by kernel_rfl) (fun W' hSW => ?_) (by assumption) ?_
  · (try dsimp only at hSW)
    first | (go_simp; done) | (obtain ⟨s0, ⟨s1, s2, s3, s4, s5⟩, s6⟩ := hSW; (try simp only [Nat.zero_add] at s1 s2 s3 s4 s5); (try simp only [evV]); go_simp; done) | exact rfl | (go_simp; rfl) | (go_simp; omega)
  try simp only [Act.put, List.setIfInBounds_toArray, List.set_cons_zero, List.set_cons_succ]
  refine take_on (i := 5) (v := .int .i64 p) rfl (by kernel_rfl) (by kernel_rfl) (by kernel_rfl) (fun _ _ _ h => h) (by kernel_rfl) (fun W' hSW => ?_) (by assumption) ?_
  · (try dsimp only at hSW)
    first | (go_simp; done) | (obtain ⟨s0, ⟨s1, s2, s3, s4, s5⟩, s6⟩ := hSW; (try simp only [Nat.zero_add] at s1 s2 s3 s4 s5); (try simp only [evV]); go_simp; done) | exact rfl | (go_simp; rfl) | (go_simp; omega)
  try simp only [Act.put, List.setIfInBounds_toArray, List.set_cons_zero, List.set_cons_succ]
  refine take_on (i := 6) (v := .pointer (some ⟨eb, p * 5, none⟩)) rfl (by kernel_rfl) (by kernel_rfl) (by kernel_rfl) (fun _ _ _ h => h) (by kernel_rfl) (fun W' hSW => ?_) (by assumption) ?_
  · (try dsimp only at hSW)
    first | (go_simp; done) | (obtain ⟨s0, ⟨s1, s2, s3, s4, s5⟩, s6⟩ := hSW; (try simp only [Nat.zero_add] at s1 s2 s3 s4 s5); (try simp only [evV]); go_simp; done) | exact rfl | (go_simp; rfl) | (go_simp; omega)
  try simp only [Act.put, List.setIfInBounds_toArray, List.set_cons_zero, List.set_cons_succ]
  refine take_on (i := 7) (v := evV x) rfl (by kernel_rfl) (by kernel_rfl) (by kernel_rfl) (fun _ _ _ h => h) (by kernel_rfl) (fun W' hSW => ?_) (by assumption) ?_
  · (try dsimp only at hSW)
    first | (go_simp; done) | (obtain ⟨s0, ⟨s1, s2, s3, s4, s5⟩, s6⟩ := hSW; (try simp only [Nat.zero_add] at s1 s2 s3 s4 s5); (try simp only [evV]); go_simp; done) | exact rfl | (go_simp; rfl) | (go_simp; omega)
  try simp only [Act.put, List.setIfInBounds_toArray, List.set_cons_zero, List.set_cons_succ]
  refine take_call (i := 8) rfl (by kernel_rfl) (by kernel_rfl) (fun K hK => ?_)
  go_simp
  refine hK.out _ _ (Skey.out _ (fun k hk => Below.heap_alloc W1 _ k (Hlt1.out k hk))) (fun hHeld2 => ?_)
  clear hK K
  try simp only [Act.put, List.setIfInBounds_toArray, List.set_cons_zero, List.set_cons_succ]
  refine take_call (i := 9) rfl (by kernel_rfl) (by kernel_rfl) (fun K hK => ?_)
  simp only [evV]
  go_simp
  refine hK.out _ _ (Skey.out _ (fun k hk => Below.heap_alloc W1 _ k (Hlt1.out k hk))) (fun hHeld3 => ?_)
  clear hK K hHeld hHeld2 hHeld3
  try simp only [Act.put, List.setIfInBounds_toArray, List.set_cons_zero, List.set_cons_succ]
  refine wpAnyH_done (by kernel_rfl) ?_ _
  obtain ⟨q3, hq3⟩ : ∃ q3, W1.heap.size = q3 := ⟨_, rfl⟩
  obtain ⟨W2, hW2⟩ : ∃ W, (W1.alloc (.cells #[.int .i64 x.key.time, .int .i64 x.key.source, .int .i64 x.key.seq, .int .i64 x.to, .int .i64 x.value] 28)).drew = W := ⟨_, rfl⟩
  have bx2 := Lib.hid (show W2.heap[q3]? = some (.cells #[.int .i64 x.key.time, .int .i64 x.key.source, .int .i64 x.key.seq, .int .i64 x.to, .int .i64 x.value] 28 (0, 0)) by rw [← hW2, ← hq3]; exact World.alloc_heap_new W1 _)
  have f12 : Fr0 none' W1 W2 := by rw [← hW2]; exact ((Fr0.refl none' W1).alloc _).drew
  rw [hW2]
  try rw [hq3]
  have Hq3 := Lib.hid hq3
  clear hW2 hq3 Skey Hlt1
  have H2 := Lib.hid (H1.out.fr0 f12 (fun _ _ h => h))
  have br2 := Lib.hid ((f12.block q2 (Array.getElem?_eq_some_iff.1 br1.out).1 id).trans br1.out)
  have bo2 := Lib.hid ((f12.block (q2 + 1) (Array.getElem?_eq_some_iff.1 bo1.out).1 id).trans bo1.out)
  have F2 := Lib.hid (F1.out.trans f12)
  clear f12
  have her : errP n (X.map entX) (p : Int) = 0 := by
    unfold errP
    rw [if_neg (by omega), if_neg]
    rw [Int.toNat_natCast, look_none]
    exact fun hh => hh _ (List.mem_map.2 ⟨_, Hy.out, rfl⟩) rfl
  have hp2 : HeapIs W2.drew hb ba hv n (X.map entX) := H2.out.hp.later0 (Fr0.refl none' W2).drew
  have HRem := Remove_is hp2 (p : Int)
  rw [show delP n (X.map entX) (p : Int) = delL p (X.map entX) by unfold delP; rw [if_pos her, Int.toNat_natCast]] at HRem
  have HRem := Lib.hid HRem
  have c1 := H2.out.c1
  have r0 := cells_in br2.out 0
  have r1 := cells_in br2.out 1
  simp at r0 r1
  clear hp2 her
  go_wp2_with fail
  go_still_tail 6, (by kernel_rfl)
  change wpList _ _ _ _ _ W2.drew
  go_wp2_with fail
  refine HRem.out.mono ?_
  rintro e W3 ⟨rfl, hv', hp3, hs3⟩
  have f23 : Fr0 (foot hb ba hv) W2 W3 := (Fr0.refl (foot hb ba hv) W2).drew.trans hs3.fr.to0
  have own3 := Lib.hid (show ∀ g, hv'.ownBlock = some g → hv.ownBlock = some g ∨ w.heap.size ≤ g from fun g hg => (hs3.own g hg).imp id (fun h => Nat.le_trans F2.out.size h))
  have own3s := Lib.hid (show ∀ g, hv'.ownBlock = some g → hv.ownBlock = some g ∨ W2.heap.size ≤ g from hs3.own)
  have hold : ∀ k, w.heap.size ≤ k → ¬ foot hb ba hv k := fun k hk hf => by have := H.out.lt k (.inr (.inr (.inr (.inr (.inr hf))))); omega
  have hq23 : w.heap.size ≤ q2 ∧ w.heap.size ≤ q3 := by
    have h1 := Hq2.out
    have h2 := Hq3.out
    have h3 := F1.out.size
    omega
  have HQ := Lib.hid hq23
  have br3 := Lib.hid ((f23.block q2 (Array.getElem?_eq_some_iff.1 br2.out).1 (hold _ hq23.1)).trans br2.out)
  have bo3 := Lib.hid ((f23.block (q2 + 1) (Array.getElem?_eq_some_iff.1 bo2.out).1 (hold _ (by omega))).trans bo2.out)
  have bx3 := Lib.hid ((f23.block q3 (Array.getElem?_eq_some_iff.1 bx2.out).1 (hold _ hq23.2)).trans bx2.out)
  have hd3 := Lib.hid ((f23.block qb (Array.getElem?_eq_some_iff.1 H2.out.hd).1 (fun hk => (HP.out.he _ hk).2.2 rfl)).trans H2.out.hd)
  have ev3 := Lib.hid ((f23.block eb (Array.getElem?_eq_some_iff.1 H2.out.ev).1 (fun hk => (HP.out.he _ hk).1 rfl)).trans H2.out.ev)
  have nm3 := Lib.hid (H2.out.nm.fr0 f23 (fun hk => (HP.out.he _ hk).2.1 rfl))
  have sl3 := Lib.hid (H2.out.sl.fr0 f23 (fun k hk hf => HP.out.h k hf hk))
  have hp3 := Lib.hid hp3
  have F3 := Lib.hid (show Fr0 (qfoot qb sb pb hb ba eb mb hv) w W3 from (F2.out.mono (fun _ _ h => h.elim)).trans (f23.mono (fun k _ hk => .inr (.inr (.inr (.inr (.inr hk)))))))
  have HGive := Lib.hid (SGive_is (sl3.out.later (Fr0.refl none' W3).drew) Hpl.out Htk.out Hlf.out (by have := H.out.n256; omega))
  clear c1 r0 r1 hs3 f23 hold hq23
  have c0 : W3.cell? ⟨qb, 0, none⟩ = some (.pointer (some ⟨sb, 0, none⟩)) := by rw [cells_in hd3.out]; rfl
  have r0 := cells_in br3.out 0
  have r1 := cells_in br3.out 1
  simp at r0 r1
  go_wp2_with fail
  go_still_tail 5, (by kernel_rfl)
  change wpList _ _ _ _ _ W3.drew
  go_wp2_with fail
  refine HGive.out.mono ?_
  rintro e W4 ⟨rfl, sl4, f34'⟩
  have f34 : Fr0 (lfoot sb pb) W3 W4 := (Fr0.refl (lfoot sb pb) W3).drew.trans f34'
  have hnl : ∀ k, w.heap.size ≤ k → ¬ lfoot sb pb k := fun k hk hf => by have := H.out.sl.lt k hf; omega
  have sl4 := Lib.hid sl4
  have br4 := Lib.hid ((f34.block q2 (Array.getElem?_eq_some_iff.1 br3.out).1 (hnl _ HQ.out.1)).trans br3.out)
  have bo4 := Lib.hid ((f34.block (q2 + 1) (Array.getElem?_eq_some_iff.1 bo3.out).1 (hnl _ (by have := HQ.out.1; omega))).trans bo3.out)
  have bx4 := Lib.hid ((f34.block q3 (Array.getElem?_eq_some_iff.1 bx3.out).1 (hnl _ HQ.out.2)).trans bx3.out)
  have hd4 := Lib.hid ((f34.block qb (Array.getElem?_eq_some_iff.1 hd3.out).1 HP.out.q).trans hd3.out)
  have ev4 := Lib.hid ((f34.block eb (Array.getElem?_eq_some_iff.1 ev3.out).1 HP.out.e).trans ev3.out)
  have nm4 := Lib.hid (nm3.out.fr0 f34 HP.out.m)
  have hp4 := Lib.hid (hp3.out.fr0 f34 (fun k hk => by
    rcases hk with hk | hk | hk
    · exact HP.out.h k (.inl hk)
    · exact HP.out.h k (.inr (.inl hk))
    · rcases own3.out k hk with h | h
      · exact HP.out.h k (.inr (.inr h))
      · exact hnl k h))
  have F4 := Lib.hid (F3.out.trans (f34.mono (fun k _ hk => by rcases hk with rfl | rfl; exact .inr (.inl rfl); exact .inr (.inr (.inl rfl)))))
  clear c0 r0 r1 f34 f34' hnl
  have Skey := Lib.hid (show ∀ W', (∀ k, k = qb ∨ k = q3 → W'.heap[k]? = W4.heap[k]?) → W'.cell? ⟨qb, 3, none⟩ = some (.map (some mb)) ∧ EAt W' q3 0 x ∧ True from fun W' hf => by
    have g1 := (hf qb (.inl rfl)).trans hd4.out
    have g2 := (hf q3 (.inr rfl)).trans bx4.out
    refine ⟨by rw [cells_in g1]; rfl, ⟨?_, ?_, ?_, ?_, ?_⟩, trivial⟩ <;> rw [cells_in g2] <;> rfl)
  have hlt4 : ∀ k, k = qb ∨ k = q3 → k < W4.heap.size := fun k hk => by
    rcases hk with rfl | rfl
    · exact (Array.getElem?_eq_some_iff.1 hd4.out).1
    · exact (Array.getElem?_eq_some_iff.1 bx4.out).1
  go_wp2_with fail
  refine wp_region_held_drew (S := fun W' => W'.cell? ⟨qb, 3, none⟩ = some (.map (some mb)) ∧ EAt W' q3 0 x ∧ True) (by kernel_rfl) (Skey.out _ (fun _ _ => rfl)) (fun hHeld => ?_)
  refine take_on (i := 0) (v := .pointer (some ⟨qb, 0, none⟩)) rfl (by kernel_rfl) (by kernel_rfl) (by kernel_rfl) (fun _ _ _ h => h) (by kernel_rfl) (fun W' hSW => ?_) (by assumption) ?_
  · (try dsimp only at hSW)
    first | (go_simp; done) | (obtain ⟨s0, ⟨s1, s2, s3, s4, s5⟩, s6⟩ := hSW; (try simp only [Nat.zero_add] at s1 s2 s3 s4 s5); (try simp only [evV]); go_simp; done) | exact rfl | (go_simp; rfl) | (go_simp; omega)
  try simp only [Act.put, List.setIfInBounds_toArray, List.set_cons_zero, List.set_cons_succ]
  refine take_on (i := 1) (v := .pointer (some ⟨qb, 0, none⟩)) rfl (by kernel_rfl) (by kernel_rfl) (by kernel_rfl) (fun _ _ _ h => h) (by kernel_rfl) (fun W' hSW => ?_) (by assumption) ?_
  · (try dsimp only at hSW)
    first | (go_simp; done) | (obtain ⟨s0, ⟨s1, s2, s3, s4, s5⟩, s6⟩ := hSW; (try simp only [Nat.zero_add] at s1 s2 s3 s4 s5); (try simp only [evV]); go_simp; done) | exact rfl | (go_simp; rfl) | (go_simp; omega)
  try simp only [Act.put, List.setIfInBounds_toArray, List.set_cons_zero, List.set_cons_succ]
  refine take_on (i := 2) (v := .pointer (some ⟨qb, 3, none⟩)) rfl (by kernel_rfl) (by kernel_rfl) (by kernel_rfl) (fun _ _ _ h => h) (by kernel_rfl) (fun W' hSW => ?_) (by assumption) ?_
  · (try dsimp only at hSW)
    first | (go_simp; done) | (obtain ⟨s0, ⟨s1, s2, s3, s4, s5⟩, s6⟩ := hSW; (try simp only [Nat.zero_add] at s1 s2 s3 s4 s5); (try simp only [evV]); go_simp; done) | exact rfl | (go_simp; rfl) | (go_simp; omega)
  try simp only [Act.put, List.setIfInBounds_toArray, List.set_cons_zero, List.set_cons_succ]
  refine take_on (i := 3) (v := .map (some mb)) rfl (by kernel_rfl) (by kernel_rfl) (by kernel_rfl) (fun _ _ _ h => h) (by kernel_rfl) (fun W' hSW => ?_) (by assumption) ?_
  · (try dsimp only at hSW)
    first | (go_simp; done) | (obtain ⟨s0, ⟨s1, s2, s3, s4, s5⟩, s6⟩ := hSW; (try simp only [Nat.zero_add] at s1 s2 s3 s4 s5); (try simp only [evV]); go_simp; done) | exact rfl | (go_simp; rfl) | (go_simp; omega)
  try simp only [Act.put, List.setIfInBounds_toArray, List.set_cons_zero, List.set_cons_succ]
  refine take_on (i := 4) (v := evV x) rfl (by kernel_rfl) (by kernel_rfl) (by kernel_rfl) (fun _ _ _ h => h) (by kernel_rfl) (fun W' hSW => ?_) (by assumption) ?_
  · (try dsimp only at hSW)
    first | (go_simp; done) | (obtain ⟨s0, ⟨s1, s2, s3, s4, s5⟩, s6⟩ := hSW; (try simp only [Nat.zero_add] at s1 s2 s3 s4 s5); (try simp only [evV]); go_simp; done) | exact rfl | (go_simp; rfl) | (go_simp; omega)
  try simp only [Act.put, List.setIfInBounds_toArray, List.set_cons_zero, List.set_cons_succ]
  refine take_call (i := 5) rfl (by kernel_rfl) (by kernel_rfl) (fun K hK => ?_)
  go_simp
  refine (of_any x _).mono ?_
  rintro e W5 ⟨rfl, f45'⟩
  have f45 : Fr0 none' W4 W5 := (Fr0.refl none' W4).drew.trans f45'
  have hre := H.out.right _ Hy.out
  obtain ⟨hi1, hi2⟩ := rightE_i64 hre
  obtain ⟨kl, hkl⟩ := name_key_is hi1 hi2
  obtain ⟨W6, hrun, nm6, f56⟩ := (nm4.out.fr0 f45 id).drop (Go.Maps.Keyed.of_law name_law) Tryz.underlying67 Hy.out H.out.once H.out.ok.snd hkl 0
  simp only at hrun nm6
  have hk6 : ∀ k, k = qb ∨ k = q3 → W6.heap[k]? = W4.heap[k]? := fun k hk => by
    refine (f56.block k (Nat.lt_of_lt_of_le (hlt4 k hk) f45.size) (fun e => ?_)).trans (f45.block k (hlt4 k hk) id)
    have h1 := H.out.lt mb (.inr (.inr (.inr (.inr (.inl rfl)))))
    have h2 := HQ.out.2
    rcases hk with rfl | rfl
    · exact HP.out.qm e
    · omega
  have Hrun := Lib.hid hrun
  have Nm6 := Lib.hid nm6
  have F56 := Lib.hid f56
  have F45 := Lib.hid f45
  have Hk6 := Lib.hid hk6
  refine hK.out _ _ (Skey.out _ (fun k hk => f45.block k (hlt4 k hk) id)) (fun hHeld2 => ?_)
  clear hK K f45' f45 hrun nm6 f56 hk6 hkl hi1 hi2 hre
  try simp only [Act.put, List.setIfInBounds_toArray, List.set_cons_zero, List.set_cons_succ]
  refine take_call (i := 6) rfl (by kernel_rfl) (by kernel_rfl) (fun K hK => ?_)
  have hrun := Hrun.out
  go_simp
  refine hK.out _ _ (Skey.out _ Hk6.out) (fun hHeld3 => ?_)
  clear hK K hrun hHeld hHeld2 hHeld3
  try simp only [Act.put, List.setIfInBounds_toArray, List.set_cons_zero, List.set_cons_succ]
  refine wpAnyH_done (by kernel_rfl) ?_ _
  have hmn : ∀ k, w.heap.size ≤ k → k ≠ mb := fun k hk e => by have := H.out.lt mb (.inr (.inr (.inr (.inr (.inl rfl))))); omega
  have F46 := Lib.hid (show Fr0 (fun b => b = mb) W4 W6 from (F45.out.mono (fun _ _ h => h.elim)).trans F56.out)
  have br6 := Lib.hid ((F46.out.block q2 (Array.getElem?_eq_some_iff.1 br4.out).1 (hmn _ HQ.out.1)).trans br4.out)
  have bo6 := Lib.hid ((F46.out.block (q2 + 1) (Array.getElem?_eq_some_iff.1 bo4.out).1 (hmn _ (by have := HQ.out.1; omega))).trans bo4.out)
  have bx6 := Lib.hid ((F46.out.block q3 (Array.getElem?_eq_some_iff.1 bx4.out).1 (hmn _ HQ.out.2)).trans bx4.out)
  have hd6 := Lib.hid ((F46.out.block qb (Array.getElem?_eq_some_iff.1 hd4.out).1 HP.out.qm).trans hd4.out)
  have ev6 := Lib.hid ((F46.out.block eb (Array.getElem?_eq_some_iff.1 ev4.out).1 (fun e => HP.out.em e.symm)).trans ev4.out)
  have sl6 := Lib.hid (sl4.out.fr0 F46.out (fun k hk e => HP.out.m (e ▸ hk)))
  have hp6 := Lib.hid (hp4.out.fr0 F46.out (fun k hk e => by
    rcases hk with hk | hk | hk
    · exact (HP.out.he k (.inl hk)).2.1 e
    · exact (HP.out.he k (.inr (.inl hk))).2.1 e
    · rcases own3.out k hk with h | h
      · exact (HP.out.he k (.inr (.inr h))).2.1 e
      · exact hmn k h e))
  have F6 := Lib.hid (F4.out.trans (F46.out.mono (fun k _ hk => .inr (.inr (.inr (.inr (.inl hk)))))))
  clear hmn hlt4 Skey Hk6 F45 F56 F46 Hrun
  have hold : ∀ k, w.heap.size ≤ k → k ≠ eb := fun k hk e => by have := H.out.lt eb (.inr (.inr (.inr (.inl rfl)))); omega
  have Skey := Lib.hid (show ∀ W' : World, (∀ k, k = qb ∨ k = q2 → W'.heap[k]? = W6.heap[k]?) → W'.cell? ⟨qb, 2, none⟩ = some (.slice (some ⟨eb, 0, none⟩) n n) ∧ W'.cell? ⟨q2, 0, none⟩ = some (.int .i64 p) from fun W' hf => by
    refine ⟨?_, ?_⟩
    · rw [cells_in ((hf qb (.inl rfl)).trans hd6.out)]; rfl
    · rw [cells_in ((hf q2 (.inr rfl)).trans br6.out)]; rfl)
  have hy := Hvx.out
  have y0 : W6.cell? ⟨eb, p * 5, none⟩ = some (.int .i64 x.key.time) := by rw [cells_in ev6.out, List.getElem?_toArray]; exact flat_some cev_len hy (j := 0) (by omega) rfl
  have y1 : W6.cell? ⟨eb, p * 5 + 1, none⟩ = some (.int .i64 x.key.source) := by rw [cells_in ev6.out, List.getElem?_toArray]; exact flat_some cev_len hy (j := 1) (by omega) rfl
  have y2 : W6.cell? ⟨eb, p * 5 + 2, none⟩ = some (.int .i64 x.key.seq) := by rw [cells_in ev6.out, List.getElem?_toArray]; exact flat_some cev_len hy (j := 2) (by omega) rfl
  have y3 : W6.cell? ⟨eb, p * 5 + 3, none⟩ = some (.int .i64 x.to) := by rw [cells_in ev6.out, List.getElem?_toArray]; exact flat_some cev_len hy (j := 3) (by omega) rfl
  have y4 : W6.cell? ⟨eb, p * 5 + 4, none⟩ = some (.int .i64 x.value) := by rw [cells_in ev6.out, List.getElem?_toArray]; exact flat_some cev_len hy (j := 4) (by omega) rfl
  have t0 := thaw_in ev6.out (p * 5)
  have t1 := thaw_in ev6.out (p * 5 + 1)
  have t2 := thaw_in ev6.out (p * 5 + 2)
  have t3 := thaw_in ev6.out (p * 5 + 3)
  have t4 := thaw_in ev6.out (p * 5 + 4)
  clear hy
  go_wp2_with fail
  refine wp_region_held_drew (S := fun W' => W'.cell? ⟨qb, 2, none⟩ = some (.slice (some ⟨eb, 0, none⟩) n n) ∧ W'.cell? ⟨q2, 0, none⟩ = some (.int .i64 p)) (by kernel_rfl) (Skey.out _ (fun _ _ => rfl)) (fun hHeld => ?_)
  refine take_on (i := 0) (v := .pointer (some ⟨qb, 0, none⟩)) rfl (by kernel_rfl) (by kernel_rfl) (by kernel_rfl) (fun _ _ _ h => h) (by kernel_rfl) (fun W' hSW => ?_) (by assumption) ?_
  · (try dsimp only at hSW)
    first | (go_simp; done) | (obtain ⟨s0, ⟨s1, s2, s3, s4, s5⟩, s6⟩ := hSW; (try simp only [Nat.zero_add] at s1 s2 s3 s4 s5); (try simp only [evV]); go_simp; done) | exact rfl | (go_simp; rfl) | (go_simp; omega)
  try simp only [Act.put, List.setIfInBounds_toArray, List.set_cons_zero, List.set_cons_succ]
  refine take_on (i := 1) (v := .pointer (some ⟨qb, 0, none⟩)) rfl (by kernel_rfl) (by kernel_rfl) (by kernel_rfl) (fun _ _ _ h => h) (by kernel_rfl) (fun W' hSW => ?_) (by assumption) ?_
  · (try dsimp only at hSW)
    first | (go_simp; done) | (obtain ⟨s0, ⟨s1, s2, s3, s4, s5⟩, s6⟩ := hSW; (try simp only [Nat.zero_add] at s1 s2 s3 s4 s5); (try simp only [evV]); go_simp; done) | exact rfl | (go_simp; rfl) | (go_simp; omega)
  try simp only [Act.put, List.setIfInBounds_toArray, List.set_cons_zero, List.set_cons_succ]
  refine take_on (i := 2) (v := .pointer (some ⟨qb, 2, none⟩)) rfl (by kernel_rfl) (by kernel_rfl) (by kernel_rfl) (fun _ _ _ h => h) (by kernel_rfl) (fun W' hSW => ?_) (by assumption) ?_
  · (try dsimp only at hSW)
    first | (go_simp; done) | (obtain ⟨s0, ⟨s1, s2, s3, s4, s5⟩, s6⟩ := hSW; (try simp only [Nat.zero_add] at s1 s2 s3 s4 s5); (try simp only [evV]); go_simp; done) | exact rfl | (go_simp; rfl) | (go_simp; omega)
  try simp only [Act.put, List.setIfInBounds_toArray, List.set_cons_zero, List.set_cons_succ]
  refine take_on (i := 3) (v := .slice (some ⟨eb, 0, none⟩) n n) rfl (by kernel_rfl) (by kernel_rfl) (by kernel_rfl) (fun _ _ _ h => h) (by kernel_rfl) (fun W' hSW => ?_) (by assumption) ?_
  · (try dsimp only at hSW)
    first | (go_simp; done) | (obtain ⟨s0, ⟨s1, s2, s3, s4, s5⟩, s6⟩ := hSW; (try simp only [Nat.zero_add] at s1 s2 s3 s4 s5); (try simp only [evV]); go_simp; done) | exact rfl | (go_simp; rfl) | (go_simp; omega)
  try simp only [Act.put, List.setIfInBounds_toArray, List.set_cons_zero, List.set_cons_succ]
  refine take_on (i := 4) (v := .pointer (some ⟨q2, 0, none⟩)) rfl (by kernel_rfl) (by kernel_rfl) (by kernel_rfl) (fun _ _ _ h => h) (by kernel_rfl) (fun W' hSW => ?_) (by assumption) ?_
  · (try dsimp only at hSW)
    first | (go_simp; done) | (obtain ⟨s0, ⟨s1, s2, s3, s4, s5⟩, s6⟩ := hSW; (try simp only [Nat.zero_add] at s1 s2 s3 s4 s5); (try simp only [evV]); go_simp; done) | exact rfl | (go_simp; rfl) | (go_simp; omega)
  try simp only [Act.put, List.setIfInBounds_toArray, List.set_cons_zero, List.set_cons_succ]
  refine take_on (i := 5) (v := .int .i64 p) rfl (by kernel_rfl) (by kernel_rfl) (by kernel_rfl) (fun _ _ _ h => h) (by kernel_rfl) (fun W' hSW => ?_) (by assumption) ?_
  · (try dsimp only at hSW)
    first | (go_simp; done) | (obtain ⟨s0, ⟨s1, s2, s3, s4, s5⟩, s6⟩ := hSW; (try simp only [Nat.zero_add] at s1 s2 s3 s4 s5); (try simp only [evV]); go_simp; done) | exact rfl | (go_simp; rfl) | (go_simp; omega)
  try simp only [Act.put, List.setIfInBounds_toArray, List.set_cons_zero, List.set_cons_succ]
  refine take_on (i := 6) (v := .agg #[.int .i64 0, .int .i64 0, .int .i64 0, .int .i64 0, .int .i64 0]) rfl (by kernel_rfl) (by kernel_rfl) (by kernel_rfl) (fun _ _ _ h => h) (by kernel_rfl) (fun W' hSW => ?_) (by assumption) ?_
  · (try dsimp only at hSW)
    first | (go_simp; done) | (obtain ⟨s0, ⟨s1, s2, s3, s4, s5⟩, s6⟩ := hSW; (try simp only [Nat.zero_add] at s1 s2 s3 s4 s5); (try simp only [evV]); go_simp; done) | exact rfl | (go_simp; rfl) | (go_simp; omega)
  try simp only [Act.put, List.setIfInBounds_toArray, List.set_cons_zero, List.set_cons_succ]
  refine take_on (i := 7) (v := .pointer (some ⟨eb, p * 5, none⟩)) rfl (by kernel_rfl) (by kernel_rfl) (by kernel_rfl) (fun _ _ _ h => h) (by kernel_rfl) (fun W' hSW => ?_) (by assumption) ?_
  · (try dsimp only at hSW)
    first | (go_simp; done) | (obtain ⟨s0, ⟨s1, s2, s3, s4, s5⟩, s6⟩ := hSW; (try simp only [Nat.zero_add] at s1 s2 s3 s4 s5); (try simp only [evV]); go_simp; done) | exact rfl | (go_simp; rfl) | (go_simp; omega)
  try simp only [Act.put, List.setIfInBounds_toArray, List.set_cons_zero, List.set_cons_succ]
  refine take_call (i := 8) rfl (by kernel_rfl) (by kernel_rfl) (fun K hK => ?_)
  go_simp
  obtain ⟨W7, hW7⟩ : ∃ W, (((((W6.setCell ⟨eb, p * 5, none⟩ (.int .i64 0)).setCell ⟨eb, p * 5 + 1, none⟩ (.int .i64 0)).setCell ⟨eb, p * 5 + 2, none⟩ (.int .i64 0)).setCell ⟨eb, p * 5 + 3, none⟩ (.int .i64 0)).setCell ⟨eb, p * 5 + 4, none⟩ (.int .i64 0)) = W := ⟨_, rfl⟩
  try rw [hW7]
  have hde : (W6.setCell ⟨eb, p * 5, none⟩ (.int .i64 0)).heap.size = (W6.setCell ⟨eb, p * 5, none⟩ (.int .i64 0)).heap.size := rfl
  have ev7 := Lib.hid (show W7.heap[eb]? = some (.cells (flatEv (V.set p noEv)).toArray 28 (0, 0)) by rw [← hW7]; exact ev_row5 ev6.out Hvx.out _ _ _ _ _)
  have f67 : Fr0 (fun k => k = eb) W6 W7 := by rw [← hW7]; exact (((((Fr0.refl (fun k => k = eb) W6).setCell (fun _ => rfl) _).setCell (fun _ => rfl) _).setCell (fun _ => rfl) _).setCell (fun _ => rfl) _).setCell (fun _ => rfl) _
  have q7 := (f67.block qb (Array.getElem?_eq_some_iff.1 hd6.out).1 HP.out.eq)
  have r7 := (f67.block q2 (Array.getElem?_eq_some_iff.1 br6.out).1 (hold _ HQ.out.1))
  refine hK.out _ _ (Skey.out _ (fun k hk => by rcases hk with rfl | rfl; exact q7; exact r7)) (fun hHeld2 => ?_)
  clear hK K hHeld hHeld2 y0 y1 y2 y3 y4 t0 t1 t2 t3 t4 Skey hde
  try simp only [Act.put, List.setIfInBounds_toArray, List.set_cons_zero, List.set_cons_succ]
  refine wpAnyH_done (by kernel_rfl) ?_ _
  try rw [hW7]
  obtain ⟨W8, hW8⟩ : ∃ W8, W7.drew = W8 := ⟨_, rfl⟩
  have f68 : Fr0 (fun k => k = eb) W6 W8 := by rw [← hW8]; exact f67.drew
  have ev8 : W8.heap[eb]? = some (.cells (flatEv (V.set p noEv)).toArray 28 (0, 0)) := by rw [← hW8]; exact ev7.out
  try rw [hW8]
  have bo8 := Lib.hid ((f68.block (q2 + 1) (Array.getElem?_eq_some_iff.1 bo6.out).1 (hold _ (by have := HQ.out.1; omega))).trans bo6.out)
  have bx8 := Lib.hid ((f68.block q3 (Array.getElem?_eq_some_iff.1 bx6.out).1 (hold _ HQ.out.2)).trans bx6.out)
  have g1 : W8.heap[qb]? = w.heap[qb]? := (f68.block qb (Array.getElem?_eq_some_iff.1 hd6.out).1 HP.out.eq).trans (hd6.out.trans H.out.hd.symm)
  have hQ8 := H.out.taken (W := W8) (hv' := hv') Hy.out Hpl.out g1 (sl6.out.fr0 f68 (fun k hk e => HP.out.e (e ▸ hk))) (hp6.out.fr0 f68 (fun k hk e => by
    rcases hk with hk | hk | hk
    · exact (HP.out.he k (.inl hk)).1 e
    · exact (HP.out.he k (.inr (.inl hk))).1 e
    · rcases own3.out k hk with h | h
      · exact (HP.out.he k (.inr (.inr h))).1 e
      · exact hold k h e)) ev8 (Nm6.out.fr0 f68 HP.out.em) own3.out
  have HQ8 := Lib.hid hQ8
  have F8 := Lib.hid (F6.out.trans (f68.mono (fun k _ hk => .inr (.inr (.inr (.inl hk))))))
  have hne : q3 ≠ q2 + 1 := by have := Hz1.out; have := Hq3.out; omega
  have hne' : q2 + 1 ≠ q3 := hne.symm
  clear hW7 hW8 f67 f68 ev7 ev8 q7 r7 g1 hQ8 hold
  have x0 := cells_in bx8.out 0
  have x1 := cells_in bx8.out 1
  have x2 := cells_in bx8.out 2
  have x3 := cells_in bx8.out 3
  have x4 := cells_in bx8.out 4
  have o0 := cells_in bo8.out 0
  have o1 := cells_in bo8.out 1
  have o2 := cells_in bo8.out 2
  have o3 := cells_in bo8.out 3
  have o4 := cells_in bo8.out 4
  simp at x0 x1 x2 x3 x4 o0 o1 o2 o3 o4
  have t0 := thaw_in bo8.out 0
  have t1 := thaw_in bo8.out 1
  have t2 := thaw_in bo8.out 2
  have t3 := thaw_in bo8.out 3
  have t4 := thaw_in bo8.out 4
  go_wp2_with fail
  have e6 := ev_set5 bo8.out (.int .i64 x.key.time) (.int .i64 x.key.source) (.int .i64 x.key.seq) (.int .i64 x.to) (.int .i64 x.value)
  have f6 : Fr0 (fun k => k = q2 + 1) W8 (((((W8.setCell ⟨q2 + 1, 0, none⟩ (.int .i64 x.key.time)).setCell ⟨q2 + 1, 1, none⟩ (.int .i64 x.key.source)).setCell ⟨q2 + 1, 2, none⟩ (.int .i64 x.key.seq)).setCell ⟨q2 + 1, 3, none⟩ (.int .i64 x.to)).setCell ⟨q2 + 1, 4, none⟩ (.int .i64 x.value)) := (((((Fr0.refl (fun k => k = q2 + 1) W8).setCell (fun _ => rfl) _).setCell (fun _ => rfl) _).setCell (fun _ => rfl) _).setCell (fun _ => rfl) _).setCell (fun _ => rfl) _
  generalize (((((W8.setCell ⟨q2 + 1, 0, none⟩ (.int .i64 x.key.time)).setCell ⟨q2 + 1, 1, none⟩ (.int .i64 x.key.source)).setCell ⟨q2 + 1, 2, none⟩ (.int .i64 x.key.seq)).setCell ⟨q2 + 1, 3, none⟩ (.int .i64 x.to)).setCell ⟨q2 + 1, 4, none⟩ (.int .i64 x.value)) = VV at e6 f6 ⊢
  have hz2 := (Array.getElem?_eq_some_iff.1 bo2.out).1
  have hfoot : ∀ k, qfoot qb sb pb hb ba eb mb hv' k → k ≠ q2 + 1 := fun k hk e => by
    have h1 : ∀ j, qfoot qb sb pb hb ba eb mb hv j → j ≠ q2 + 1 := fun j hj => by
      have := H.out.lt j hj
      have := HQ.out.1
      omega
    rcases hk with h | h | h | h | h | h | h | h
    · exact h1 k (.inl h) e
    · exact h1 k (.inr (.inl h)) e
    · exact h1 k (.inr (.inr (.inl h))) e
    · exact h1 k (.inr (.inr (.inr (.inl h)))) e
    · exact h1 k (.inr (.inr (.inr (.inr (.inl h))))) e
    · exact h1 k (.inr (.inr (.inr (.inr (.inr (.inl h)))))) e
    · exact h1 k (.inr (.inr (.inr (.inr (.inr (.inr (.inl h))))))) e
    · rcases own3s.out k h with g | g
      · exact h1 k (.inr (.inr (.inr (.inr (.inr (.inr (.inr g))))))) e
      · omega
  have hQV := HQ8.out.fr0 f6 (fun k hk e => hfoot k hk e)
  have fV : Fr0 (qfoot qb sb pb hb ba eb mb hv) w VV := F8.out.trans' f6 (fun k hk e => by have := HQ.out.1; omega)
  clear x0 x1 x2 x3 x4 o0 o1 o2 o3 o4
  have x0 := cells_in e6 0
  have x1 := cells_in e6 1
  have x2 := cells_in e6 2
  have x3 := cells_in e6 3
  have x4 := cells_in e6 4
  simp at x0 x1 x2 x3 x4
  exact bodyPost_ret (v := .agg #[.int .i64 x.key.time, .int .i64 x.key.source, .int .i64 x.key.seq, .int .i64 x.to, .int .i64 x.value]) (by simp [results, Tryz.results63, go_sem, x0, x1, x2, x3, x4]) rfl ⟨rfl, hv', hQV, fV, own3.out⟩
end Go.Proofs.YtmcgipilopfgoaaGreat

/-
  The queue: Take, Cancel.
-/
namespace Go.Proofs.YtmcgipilopfgoaaGreat
open Go Go.RowKit Go.ChangeMaps
attribute [local go_sem ↓] Go.wp_at_zero Go.wp_at_succ
attribute [local go_sem] Oper.semAt_some wide_fn wide_depth wide_fnR wide_depthR
variable {w : World} {qb sb pb hb ba eb mb n T : Nat} {hv : Value} {X : List Pd} {F : List Nat} {P : List Pl} {first : Int} {V : List Ev}

theorem QIn.qis (h : QIn w qb sb pb hb ba eb mb hv n T X F P first V) : QIs w qb n T (X.map Prod.fst) (qfoot qb sb pb hb ba eb mb hv) := ⟨sb, pb, hb, ba, eb, mb, hv, X, F, P, first, V, h, rfl, fun _ h => h, h.lt⟩
/-- A queue behind an act. -/
theorem QIn.grown {w' : World} {hv' : Value} {T' : Nat} {X' : List Pd} {F' : List Nat} {P' : List Pl} {first' : Int} {V' : List Ev} {E : List Ev} {ft : Nat → Prop} (h : QIn w' qb sb pb hb ba eb mb hv' n T' X' F' P' first' V') (hE : X'.map Prod.fst = E)
    (hft : ∀ k, qfoot qb sb pb hb ba eb mb hv k → ft k) (hlt : ∀ k, ft k → k < w.heap.size) (hsz : w.heap.size ≤ w'.heap.size) (own : ∀ g, hv'.ownBlock = some g → hv.ownBlock = some g ∨ w.heap.size ≤ g) : QIs w' qb n T' E (qgrow ft w w') := by
  refine ⟨sb, pb, hb, ba, eb, mb, hv', X', F', P', first', V', h, hE, fun k hk => ?_, fun k hk => ?_⟩
  · have hl := h.lt k hk
    rcases hk with h | h | h | h | h | h | h | h
    · exact .inl (hft k (.inl h))
    · exact .inl (hft k (.inr (.inl h)))
    · exact .inl (hft k (.inr (.inr (.inl h))))
    · exact .inl (hft k (.inr (.inr (.inr (.inl h)))))
    · exact .inl (hft k (.inr (.inr (.inr (.inr (.inl h))))))
    · exact .inl (hft k (.inr (.inr (.inr (.inr (.inr (.inl h)))))))
    · exact .inl (hft k (.inr (.inr (.inr (.inr (.inr (.inr (.inl h))))))))
    · rcases own k h with g | g
      · exact .inl (hft k (.inr (.inr (.inr (.inr (.inr (.inr (.inr g))))))))
      · exact .inr ⟨g, hl⟩
  · rcases hk with h | h
    · have := hlt k h; omega
    · exact h.2
/-- put, on a queue. -/
theorem QIs.put {E : List Ev} {ft : Nat → Prop} {x : Ev} (h : QIs w qb n T E ft) (hr : RightE x) (hn : ∀ y ∈ E, y.name ≠ x.name) (hT : T < 4294967295) (hroom : E.length < n) :
    Calls Tryz.prog 62 #[.pointer (some ⟨qb, 0, none⟩), evV x] w fun e w' => e = .returned (.tuple #[]) ∧ QIs w' qb n (T + 1) (insE x E) (qgrow ft w w') ∧ Fr0 ft w w' := by
  obtain ⟨sb, pb, hb, ba, eb, mb, hv, X, F, P, first, V, h1, rfl, h3, h4⟩ := h
  obtain ⟨p, F', rfl⟩ : ∃ p F', F = p :: F' := by
    cases F with
    | nil => have := h1.ok.count; rw [List.length_map] at hroom; simp at this; omega
    | cons p F' => exact ⟨p, F', rfl⟩
  refine (Qput_is h1 hr (fun y hy => hn _ (List.mem_map.2 ⟨y, hy, rfl⟩)) hT).mono ?_
  rintro e w' ⟨rfl, pl, hv', _, hq, hf, own⟩
  exact ⟨rfl, hq.grown (insX_fst _ _) h3 h4 hf.size own, hf.mono (fun k _ hk => h3 k hk)⟩
theorem zero_ref (w : World) : (zeroValue 112).run Tryz.prog w = .ok (refV 0 0) w := Tryz.zeroValue112 w
set_option maxRecDepth 100000 in
set_option maxHeartbeats 1000000 in
theorem QTake_nil (h : QIn w qb sb pb hb ba eb mb hv n T [] F P first V) :
    Calls Tryz.prog 28 #[.pointer (some ⟨qb, 0, none⟩)] w fun e w' => e = .returned (.tuple #[evV zeroEv, .int .i64 6]) ∧ Fr0 none' w w' := by
  have H := Lib.hid h
  clear h
  go_enter Tryz.func28, Tryz.ntmps28
  go_wp2_with fail
  obtain ⟨q, hq⟩ : ∃ q, w.heap.size = q := ⟨_, rfl⟩
  obtain ⟨W1, hW1⟩ : ∃ W, w.alloc (.cells #[.int .i64 0, .int .i64 0, .int .i64 0, .int .i64 0, .int .i64 0] 28) = W := ⟨_, rfl⟩
  have hbq := Lib.hid (show W1.heap[q]? = some (.cells #[.int .i64 0, .int .i64 0, .int .i64 0, .int .i64 0, .int .i64 0] 28 (0, 0)) by rw [← hW1, ← hq]; exact World.alloc_heap_new w _)
  have F1 := Lib.hid (show Fr0 none' w W1 by rw [← hW1]; exact (Fr0.refl _ _).alloc _)
  rw [hW1]
  try rw [hq]
  have Hq := Lib.hid hq
  clear hW1 hq
  have h1 := H.out.fr0 F1.out (fun _ _ h => h)
  have H1 := Lib.hid h1
  refine (qnone_is h1).mono ?_
  rintro e w1 ⟨rfl, rfl⟩
  clear h1
  go_wp2_with fail
  refine (QLeast_is H1.out).mono ?_
  rintro e w2 ⟨rfl, hf2⟩
  obtain ⟨z, hz⟩ : ∃ z, lstE [] = z := ⟨_, rfl⟩
  simp only [List.map_nil, hz, List.isEmpty_nil, Bool.not_true, evV]
  have hb2 := Lib.hid ((hf2.block q (Array.getElem?_eq_some_iff.1 hbq.out).1 id).trans hbq.out)
  obtain ⟨W2, hW2⟩ : ∃ W2, w2.alloc (.cells #[.int .i64 z.key.time, .int .i64 z.key.source, .int .i64 z.key.seq, .int .i64 z.to, .int .i64 z.value] 28) = W2 := ⟨_, rfl⟩
  have f2 : Fr0 none' w W2 := by rw [← hW2]; exact (F1.out.trans hf2).alloc _
  have b2 : W2.heap[q]? = some (.cells #[.int .i64 0, .int .i64 0, .int .i64 0, .int .i64 0, .int .i64 0] 28 (0, 0)) := by rw [← hW2]; exact (Below.heap_alloc _ _ _ (Array.getElem?_eq_some_iff.1 hb2.out).1).trans hb2.out
  clear hbq F1
  have F1 := Lib.hid f2
  have hbq := Lib.hid b2
  clear f2 b2 hf2 hb2 hz
  have t0 := thaw_in hbq.out 0
  have t1 := thaw_in hbq.out 1
  have t2 := thaw_in hbq.out 2
  have t3 := thaw_in hbq.out 3
  have t4 := thaw_in hbq.out 4
  have y0 := cells_in hbq.out 0
  have y1 := cells_in hbq.out 1
  have y2 := cells_in hbq.out 2
  have y3 := cells_in hbq.out 3
  have y4 := cells_in hbq.out 4
  simp at y0 y1 y2 y3 y4
  go_wp2_with fail
  clear hW2
  have e6 := ev_set5 hbq.out (.int .i64 0) (.int .i64 0) (.int .i64 0) (.int .i64 0) (.int .i64 0)
  have f6 : Fr0 none' w (((((W2.setCell ⟨q, 0, none⟩ (.int .i64 0)).setCell ⟨q, 1, none⟩ (.int .i64 0)).setCell ⟨q, 2, none⟩ (.int .i64 0)).setCell ⟨q, 3, none⟩ (.int .i64 0)).setCell ⟨q, 4, none⟩ (.int .i64 0)) := F1.out.trans' (S' := fun k => k = q) (((((Fr0.refl (fun k => k = q) W2).setCell (fun _ => rfl) _).setCell (fun _ => rfl) _).setCell (fun _ => rfl) _).setCell (fun _ => rfl) _ |>.setCell (fun _ => rfl) _) (fun k hk e => by have := Hq.out; omega)
  generalize (((((W2.setCell ⟨q, 0, none⟩ (.int .i64 0)).setCell ⟨q, 1, none⟩ (.int .i64 0)).setCell ⟨q, 2, none⟩ (.int .i64 0)).setCell ⟨q, 3, none⟩ (.int .i64 0)).setCell ⟨q, 4, none⟩ (.int .i64 0)) = VV at e6 f6 ⊢
  clear y0 y1 y2 y3 y4
  have y0 := cells_in e6 0
  have y1 := cells_in e6 1
  have y2 := cells_in e6 2
  have y3 := cells_in e6 3
  have y4 := cells_in e6 4
  simp at y0 y1 y2 y3 y4
  exact bodyPost_ret (v := .tuple #[evV zeroEv, .int .i64 6]) (by simp [results, Tryz.results28, go_sem, y0, y1, y2, y3, y4, evV, zeroEv]) rfl ⟨rfl, f6⟩
set_option maxRecDepth 100000 in
set_option maxHeartbeats 1000000 in
theorem QTake_cons {y : Pd} {r : List Pd} (h : QIn w qb sb pb hb ba eb mb hv n T (y :: r) F P first V) (hT : T < 4294967296) :
    Calls Tryz.prog 28 #[.pointer (some ⟨qb, 0, none⟩)] w fun e w' => e = .returned (.tuple #[evV y.1, .int .i64 0]) ∧ ∃ hv' F' P' first' V', QIn w' qb sb pb hb ba eb mb hv' n T (delX y.2 (y :: r)) F' P' first' V' ∧ Fr0 (qfoot qb sb pb hb ba eb mb hv) w w' ∧ ∀ g, hv'.ownBlock = some g → hv.ownBlock = some g ∨ w.heap.size ≤ g := by
  have H := Lib.hid h
  obtain ⟨x, p⟩ := y
  clear h
  go_enter Tryz.func28, Tryz.ntmps28
  go_wp2_with fail
  obtain ⟨q, hq⟩ : ∃ q, w.heap.size = q := ⟨_, rfl⟩
  obtain ⟨W1, hW1⟩ : ∃ W, w.alloc (.cells #[.int .i64 0, .int .i64 0, .int .i64 0, .int .i64 0, .int .i64 0] 28) = W := ⟨_, rfl⟩
  have hbq := Lib.hid (show W1.heap[q]? = some (.cells #[.int .i64 0, .int .i64 0, .int .i64 0, .int .i64 0, .int .i64 0] 28 (0, 0)) by rw [← hW1, ← hq]; exact World.alloc_heap_new w _)
  have F1 := Lib.hid (show Fr0 none' w W1 by rw [← hW1]; exact (Fr0.refl _ _).alloc _)
  rw [hW1]
  try rw [hq]
  have Hq := Lib.hid hq
  clear hW1 hq
  have h1 := H.out.fr0 F1.out (fun _ _ h => h)
  have H1 := Lib.hid h1
  refine (qnone_is h1).mono ?_
  rintro e w1 ⟨rfl, rfl⟩
  clear h1
  go_wp2_with fail
  refine (QLeast_is H1.out).mono ?_
  rintro e w2 ⟨rfl, hf2⟩
  simp only [List.map_cons, lstE, List.isEmpty_cons, Bool.not_false, evV]
  go_wp2_with fail
  obtain ⟨q4, hq4⟩ : ∃ q4, w2.heap.size = q4 := ⟨_, rfl⟩
  obtain ⟨W3, hW3⟩ : ∃ W, w2.alloc (.cells #[.int .i64 x.key.time, .int .i64 x.key.source, .int .i64 x.key.seq, .int .i64 x.to, .int .i64 x.value] 28) = W := ⟨_, rfl⟩
  have bx3 := Lib.hid (show W3.heap[q4]? = some (.cells #[.int .i64 x.key.time, .int .i64 x.key.source, .int .i64 x.key.seq, .int .i64 x.to, .int .i64 x.value] 28 (0, 0)) by rw [← hW3, ← hq4]; exact World.alloc_heap_new w2 _)
  have f3 : Fr0 none' W1 W3 := by rw [← hW3]; exact hf2.alloc _
  rw [hW3]
  try rw [hq4]
  have HBO := Lib.hid hbq.out
  have Hq4 := Lib.hid (show W1.heap.size ≤ q4 by rw [← hq4]; exact hf2.size)
  clear hW3 hq4 hf2
  have H3 := Lib.hid (H1.out.fr0 f3 (fun _ _ h => h))
  have bo3 := Lib.hid ((f3.block q (Array.getElem?_eq_some_iff.1 hbq.out).1 id).trans hbq.out)
  have F3 := Lib.hid (F1.out.trans f3)
  clear f3
  have Skey := Lib.hid (show ∀ W' : World, (∀ k, k = qb ∨ k = q4 → W'.heap[k]? = W3.heap[k]?) → W'.cell? ⟨qb, 3, none⟩ = some (.map (some mb)) ∧ EAt W' q4 0 x ∧ True from fun W' hf => by
    have g1 := (hf qb (.inl rfl)).trans H3.out.hd
    have g2 := (hf q4 (.inr rfl)).trans bx3.out
    refine ⟨by rw [cells_in g1]; rfl, ⟨?_, ?_, ?_, ?_, ?_⟩, trivial⟩ <;> rw [cells_in g2] <;> rfl)
  have hlt3 : ∀ k, k = qb ∨ k = q4 → k < W3.heap.size := fun k hk => by
    rcases hk with rfl | rfl
    · exact (Array.getElem?_eq_some_iff.1 H3.out.hd).1
    · exact (Array.getElem?_eq_some_iff.1 bx3.out).1
  refine wp_region_held_drew (S := fun W' => W'.cell? ⟨qb, 3, none⟩ = some (.map (some mb)) ∧ EAt W' q4 0 x ∧ True) (by kernel_rfl) (Skey.out _ (fun _ _ => rfl)) (fun hHeld => ?_)
  refine take_on (i := 0) (v := .pointer (some ⟨qb, 0, none⟩)) rfl (by kernel_rfl) (by kernel_rfl) (by kernel_rfl) (fun _ _ _ h => h) (by kernel_rfl) (fun W' hSW => ?_) (by assumption) ?_
  · (try dsimp only at hSW)
    first | (go_simp; done) | (obtain ⟨s0, ⟨s1, s2, s3, s4, s5⟩, s6⟩ := hSW; (try simp only [Nat.zero_add] at s1 s2 s3 s4 s5); (try simp only [evV]); go_simp; done) | exact rfl | (go_simp; rfl) | (go_simp; omega)
  try simp only [Act.put, List.setIfInBounds_toArray, List.set_cons_zero, List.set_cons_succ]
  refine take_on (i := 1) (v := .pointer (some ⟨qb, 0, none⟩)) rfl (by kernel_rfl) (by kernel_rfl) (by kernel_rfl) (fun _ _ _ h => h) (by kernel_rfl) (fun W' hSW => ?_) (by assumption) ?_
  · (try dsimp only at hSW)
    first | (go_simp; done) | (obtain ⟨s0, ⟨s1, s2, s3, s4, s5⟩, s6⟩ := hSW; (try simp only [Nat.zero_add] at s1 s2 s3 s4 s5); (try simp only [evV]); go_simp; done) | exact rfl | (go_simp; rfl) | (go_simp; omega)
  try simp only [Act.put, List.setIfInBounds_toArray, List.set_cons_zero, List.set_cons_succ]
  refine take_on (i := 2) (v := .pointer (some ⟨qb, 0, none⟩)) rfl (by kernel_rfl) (by kernel_rfl) (by kernel_rfl) (fun _ _ _ h => h) (by kernel_rfl) (fun W' hSW => ?_) (by assumption) ?_
  · (try dsimp only at hSW)
    first | (go_simp; done) | (obtain ⟨s0, ⟨s1, s2, s3, s4, s5⟩, s6⟩ := hSW; (try simp only [Nat.zero_add] at s1 s2 s3 s4 s5); (try simp only [evV]); go_simp; done) | exact rfl | (go_simp; rfl) | (go_simp; omega)
  try simp only [Act.put, List.setIfInBounds_toArray, List.set_cons_zero, List.set_cons_succ]
  refine take_on (i := 3) (v := .pointer (some ⟨qb, 3, none⟩)) rfl (by kernel_rfl) (by kernel_rfl) (by kernel_rfl) (fun _ _ _ h => h) (by kernel_rfl) (fun W' hSW => ?_) (by assumption) ?_
  · (try dsimp only at hSW)
    first | (go_simp; done) | (obtain ⟨s0, ⟨s1, s2, s3, s4, s5⟩, s6⟩ := hSW; (try simp only [Nat.zero_add] at s1 s2 s3 s4 s5); (try simp only [evV]); go_simp; done) | exact rfl | (go_simp; rfl) | (go_simp; omega)
  try simp only [Act.put, List.setIfInBounds_toArray, List.set_cons_zero, List.set_cons_succ]
  refine take_on (i := 4) (v := .map (some mb)) rfl (by kernel_rfl) (by kernel_rfl) (by kernel_rfl) (fun _ _ _ h => h) (by kernel_rfl) (fun W' hSW => ?_) (by assumption) ?_
  · (try dsimp only at hSW)
    first | (go_simp; done) | (obtain ⟨s0, ⟨s1, s2, s3, s4, s5⟩, s6⟩ := hSW; (try simp only [Nat.zero_add] at s1 s2 s3 s4 s5); (try simp only [evV]); go_simp; done) | exact rfl | (go_simp; rfl) | (go_simp; omega)
  try simp only [Act.put, List.setIfInBounds_toArray, List.set_cons_zero, List.set_cons_succ]
  refine take_on (i := 5) (v := evV x) rfl (by kernel_rfl) (by kernel_rfl) (by kernel_rfl) (fun _ _ _ h => h) (by kernel_rfl) (fun W' hSW => ?_) (by assumption) ?_
  · (try dsimp only at hSW)
    first | (go_simp; done) | (obtain ⟨s0, ⟨s1, s2, s3, s4, s5⟩, s6⟩ := hSW; (try simp only [Nat.zero_add] at s1 s2 s3 s4 s5); (try simp only [evV]); go_simp; done) | exact rfl | (go_simp; rfl) | (go_simp; omega)
  try simp only [Act.put, List.setIfInBounds_toArray, List.set_cons_zero, List.set_cons_succ]
  refine take_call (i := 6) rfl (by kernel_rfl) (by kernel_rfl) (fun K hK => ?_)
  go_simp
  refine (of_any x _).mono ?_
  rintro e W5 ⟨rfl, f35'⟩
  have f35 : Fr0 none' W3 W5 := (Fr0.refl none' W3).drew.trans f35'
  have h5 := H3.out.fr0 f35 (fun _ _ h => h)
  have hy5 : (x, p) ∈ (x, p) :: r := List.mem_cons_self
  obtain ⟨pl, hpl, htk⟩ := h5.ok.tk _ hy5
  obtain ⟨hi1, hi2⟩ := rightE_i64 (h5.right _ hy5)
  obtain ⟨kl, hkl⟩ := name_key_is hi1 hi2
  have hlook := (h5.nm.look (Go.Maps.Keyed.of_law name_law) Tryz.underlying67 (zero_ref W5) hy5 hkl).2
  rw [lifeP_at hpl] at hlook
  have HRem := Lib.hid (Qremove_is h5 hy5 hpl hT)
  simp only at HRem
  have Hlook := Lib.hid (show (Instr.lookup 67 (.map (some mb)) (nameV x.name) false).run Tryz.prog W5 = .ok (.agg #[.int .i64 p, .int .i64 pl.life]) W5 from hlook)
  have hS5 := Skey.out W5 (fun k hk => f35.block k (hlt3 k hk) id)
  have H5 := Lib.hid h5
  have F5 := Lib.hid (F3.out.trans f35)
  have bo5 := Lib.hid ((f35.block q (Array.getElem?_eq_some_iff.1 bo3.out).1 id).trans bo3.out)
  have F35 := Lib.hid f35
  have Hlt3 := Lib.hid hlt3
  refine hK.out _ _ hS5 (fun hHeld2 => ?_)
  clear hK K f35' f35 h5 hlook hkl hi1 hi2 hpl htk hlt3
  try simp only [Act.put, List.setIfInBounds_toArray, List.set_cons_zero, List.set_cons_succ]
  refine take_call (i := 7) rfl (by kernel_rfl) (by kernel_rfl) (fun K hK => ?_)
  have hlook := Hlook.out
  go_simp
  refine hK.out _ _ hS5 (fun hHeld3 => ?_)
  clear hK K hlook
  try simp only [Act.put, List.setIfInBounds_toArray, List.set_cons_zero, List.set_cons_succ]
  refine take_call (i := 8) rfl (by kernel_rfl) (by kernel_rfl) (fun K hK => ?_)
  go_simp
  refine HRem.out.mono ?_
  rintro e W7 ⟨rfl, hv', hQ7, f57, own7⟩
  have hold : ∀ k, w.heap.size ≤ k → ¬ qfoot qb sb pb hb ba eb mb hv k := fun k hk hf => by have := H.out.lt k hf; omega
  have hq0 : w.heap.size ≤ q := by have := Hq.out; omega
  have hq4 : w.heap.size ≤ q4 := by have := Hq4.out; have := F1.out.size; omega
  have hqq : q ≠ q4 := by have := Hq4.out; have := (Array.getElem?_eq_some_iff.1 HBO.out).1; omega
  have hl5 : ∀ k, k < W3.heap.size → k < W5.heap.size := fun k hk => by have := F35.out.size; omega
  have hk7 : ∀ k, k = qb ∨ k = q4 → W7.heap[k]? = W3.heap[k]? := fun k hk => by
    rcases hk with rfl | rfl
    · exact hQ7.hd.trans H3.out.hd.symm
    · have h1 := Hlt3.out _ (.inr rfl)
      exact (f57.block _ (hl5 _ h1) (hold _ hq4)).trans (F35.out.block _ h1 id)
  have bo7 := Lib.hid ((f57.block q (Array.getElem?_eq_some_iff.1 bo5.out).1 (hold _ hq0)).trans bo5.out)
  have hS7 := Skey.out W7 hk7
  have HQ7 := Lib.hid hQ7
  have F7 := Lib.hid ((F5.out.mono (fun _ _ h => h.elim)).trans f57)
  have own7 := Lib.hid (show ∀ g, hv'.ownBlock = some g → hv.ownBlock = some g ∨ W5.heap.size ≤ g from own7)
  refine hK.out _ _ hS7 (fun hHeld4 => ?_)
  clear hK K
  try simp only [Act.put, List.setIfInBounds_toArray, List.set_cons_zero, List.set_cons_succ]
  have y0 := cells_in bo7.out 0
  have y1 := cells_in bo7.out 1
  have y2 := cells_in bo7.out 2
  have y3 := cells_in bo7.out 3
  have y4 := cells_in bo7.out 4
  simp at y0 y1 y2 y3 y4
  have t0 := thaw_in bo7.out 0
  have t1 := thaw_in bo7.out 1
  have t2 := thaw_in bo7.out 2
  have t3 := thaw_in bo7.out 3
  have t4 := thaw_in bo7.out 4
  refine take_call (i := 9) rfl (by kernel_rfl) (by kernel_rfl) (fun K hK => ?_)
  simp only [evV]
  go_simp
  obtain ⟨W8, hW8⟩ : ∃ W, (((((W7.setCell ⟨q, 0, none⟩ (.int .i64 x.key.time)).setCell ⟨q, 1, none⟩ (.int .i64 x.key.source)).setCell ⟨q, 2, none⟩ (.int .i64 x.key.seq)).setCell ⟨q, 3, none⟩ (.int .i64 x.to)).setCell ⟨q, 4, none⟩ (.int .i64 x.value)) = W := ⟨_, rfl⟩
  try rw [hW8]
  have e8 : W8.heap[q]? = some (.cells #[.int .i64 x.key.time, .int .i64 x.key.source, .int .i64 x.key.seq, .int .i64 x.to, .int .i64 x.value] 28 (0, 0)) := by rw [← hW8]; exact ev_set5 bo7.out _ _ _ _ _
  have f78 : Fr0 (fun k => k = q) W7 W8 := by rw [← hW8]; exact (((((Fr0.refl (fun k => k = q) W7).setCell (fun _ => rfl) _).setCell (fun _ => rfl) _).setCell (fun _ => rfl) _).setCell (fun _ => rfl) _).setCell (fun _ => rfl) _
  have hl7 : ∀ k, k = qb ∨ k = q4 → k < W7.heap.size := fun k hk => by have h1 := hl5 _ (Hlt3.out k hk); have h2 := f57.size; omega
  have hS8 := Skey.out W8 (fun k hk => (f78.block k (hl7 k hk) (fun e => by
    rcases hk with rfl | rfl
    · have := H.out.lt k (.inl rfl); omega
    · exact hqq e.symm)).trans (hk7 k hk))
  refine hK.out _ _ hS8 (fun hHeld5 => ?_)
  clear hK K y0 y1 y2 y3 y4 t0 t1 t2 t3 t4
  try simp only [Act.put, List.setIfInBounds_toArray, List.set_cons_zero, List.set_cons_succ]
  refine take_call (i := 10) rfl (by kernel_rfl) (by kernel_rfl) (fun K hK => ?_)
  go_simp
  refine hK.out _ _ hS8 (fun hHeld6 => ?_)
  clear hK K
  try simp only [Act.put, List.setIfInBounds_toArray, List.set_cons_zero, List.set_cons_succ]
  refine wpAnyH_done (by kernel_rfl) ?_ _
  have hQ8 := HQ7.out.fr0 f78 (fun k hk e => by
    have h1 : ∀ j, qfoot qb sb pb hb ba eb mb hv j → j ≠ q := fun j hj => by
      have := H.out.lt j hj
      omega
    rcases hk with h | h | h | h | h | h | h | h
    · exact h1 k (.inl h) e
    · exact h1 k (.inr (.inl h)) e
    · exact h1 k (.inr (.inr (.inl h))) e
    · exact h1 k (.inr (.inr (.inr (.inl h)))) e
    · exact h1 k (.inr (.inr (.inr (.inr (.inl h))))) e
    · exact h1 k (.inr (.inr (.inr (.inr (.inr (.inl h)))))) e
    · exact h1 k (.inr (.inr (.inr (.inr (.inr (.inr (.inl h))))))) e
    · rcases own7.out k h with g | g
      · exact h1 k (.inr (.inr (.inr (.inr (.inr (.inr (.inr g))))))) e
      · have := hl5 _ (Array.getElem?_eq_some_iff.1 bo3.out).1; omega)
  have f8 : Fr0 (qfoot qb sb pb hb ba eb mb hv) w W8 := F7.out.trans' f78 (fun k hk e => by omega)
  have own8 : ∀ g, hv'.ownBlock = some g → hv.ownBlock = some g ∨ w.heap.size ≤ g := fun g hg => (own7.out g hg).imp id (fun h => Nat.le_trans F5.out.size h)
  clear hS5 hS7 hS8 hHeld hHeld2 hHeld3 hHeld4 hHeld5 hHeld6 hk7 hl7 hl5
  go_wp2_with fail
  have y0 := cells_in e8 0
  have y1 := cells_in e8 1
  have y2 := cells_in e8 2
  have y3 := cells_in e8 3
  have y4 := cells_in e8 4
  simp at y0 y1 y2 y3 y4
  exact bodyPost_ret (v := .tuple #[evV x, .int .i64 0]) (by simp [results, Tryz.results28, go_sem, y0, y1, y2, y3, y4, evV]) rfl ⟨rfl, hv', _, _, _, _, hQ8, f8, own8⟩
end Go.Proofs.YtmcgipilopfgoaaGreat

/-
  The queue: Cancel, Find.
-/
namespace Go.Proofs.YtmcgipilopfgoaaGreat
open Go Go.RowKit Go.ChangeMaps
attribute [local go_sem ↓] Go.wp_at_zero Go.wp_at_succ
attribute [local go_sem] Oper.semAt_some wide_fn wide_depth wide_fnR wide_depthR
variable {w : World} {qb sb pb hb ba eb mb n T : Nat} {hv : Value} {X : List Pd} {F : List Nat} {P : List Pl} {first : Int} {V : List Ev}


theorem QIs.take {E : List Ev} {ft : Nat → Prop} (h : QIs w qb n T E ft) (hT : T < 4294967296) :
    Calls Tryz.prog 28 #[.pointer (some ⟨qb, 0, none⟩)] w fun e w' => e = .returned (.tuple #[evV (lstE E), .int .i64 (if E = [] then 6 else 0)]) ∧ QIs w' qb n T E.tail (qgrow ft w w') ∧ Fr0 ft w w' := by
  obtain ⟨sb, pb, hb, ba, eb, mb, hv, X, F, P, first, V, h1, rfl, h3, h4⟩ := h
  cases X with
  | nil =>
    refine (QTake_nil h1).mono ?_
    rintro e w' ⟨rfl, hf⟩
    exact ⟨rfl, (h1.fr0 hf (fun _ _ h => h)).grown rfl h3 h4 hf.size (fun g hg => .inl hg), hf.mono (fun _ _ h => h.elim)⟩
  | cons y r =>
    refine (QTake_cons h1 hT).mono ?_
    rintro e w' ⟨rfl, hv', F', P', first', V', hq, hf, own⟩
    refine ⟨by simp [lstE], hq.grown ?_ h3 h4 hf.size own, hf.mono (fun k _ hk => h3 k hk)⟩
    rw [delX_fst h1.once h1.ok.snd List.mem_cons_self]
    exact delE_first h1.once
theorem QIs.least {E : List Ev} {ft : Nat → Prop} (h : QIs w qb n T E ft) : Calls Tryz.prog 23 #[.pointer (some ⟨qb, 0, none⟩)] w fun e w' => e = .returned (.tuple #[evV (lstE E), .bool !E.isEmpty]) ∧ Fr0 none' w w' := by
  obtain ⟨sb, pb, hb, ba, eb, mb, hv, X, F, P, first, V, h1, rfl, h3, h4⟩ := h
  refine (QLeast_is h1).mono ?_
  rintro e w' ⟨rfl, hf⟩
  exact ⟨by simp, hf⟩
theorem QIs.all {E : List Ev} {ft : Nat → Prop} (h : QIs w qb n T E ft) : Calls Tryz.prog 33 #[.pointer (some ⟨qb, 0, none⟩)] w fun e w' => ∃ v, e = .returned v ∧ w'.ownsRow w.heap.size 28 5 v E.length (flatEv E) ∧ Fr0 none' w w' := by
  obtain ⟨sb, pb, hb, ba, eb, mb, hv, X, F, P, first, V, h1, rfl, h3, h4⟩ := h
  refine (QAll_is h1).mono ?_
  rintro e w' ⟨v, rfl, hr, hf⟩
  rw [List.length_map]
  exact ⟨v, rfl, hr, hf⟩
theorem QIs.len {E : List Ev} {ft : Nat → Prop} (h : QIs w qb n T E ft) : Calls Tryz.prog 35 #[.pointer (some ⟨qb, 0, none⟩)] w fun e w' => e = .returned (.int .i64 (E.length : Nat)) ∧ w = w' := by
  obtain ⟨sb, pb, hb, ba, eb, mb, hv, X, F, P, first, V, h1, rfl, h3, h4⟩ := h
  refine (QLen_is h1).mono ?_
  rintro e w' ⟨rfl, rfl⟩
  exact ⟨by rw [List.length_map], rfl⟩
theorem QIs.room {E : List Ev} {ft : Nat → Prop} (h : QIs w qb n T E ft) : Calls Tryz.prog 25 #[.pointer (some ⟨qb, 0, none⟩)] w fun e w' => e = .returned (.int .i64 (n - E.length : Nat)) ∧ Fr0 none' w w' := by
  obtain ⟨sb, pb, hb, ba, eb, mb, hv, X, F, P, first, V, h1, rfl, h3, h4⟩ := h
  refine (QRoom_is h1).mono ?_
  rintro e w' ⟨rfl, hf⟩
  exact ⟨by rw [List.length_map], hf⟩
theorem QIs.le {E : List Ev} {ft : Nat → Prop} (h : QIs w qb n T E ft) : E.length ≤ n ∧ n ≤ 256 := by
  obtain ⟨sb, pb, hb, ba, eb, mb, hv, X, F, P, first, V, h1, rfl, h3, h4⟩ := h
  have := h1.ok.count
  have := h1.n256
  rw [List.length_map]
  omega
theorem QIs.good {E : List Ev} {ft : Nat → Prop} (h : QIs w qb n T E ft) : AscE E ∧ OnceE E ∧ ∀ x ∈ E, RightE x := by
  obtain ⟨sb, pb, hb, ba, eb, mb, hv, X, F, P, first, V, h1, rfl, h3, h4⟩ := h
  refine ⟨h1.asc, h1.once, fun x hx => ?_⟩
  obtain ⟨y, hy, rfl⟩ := List.mem_map.1 hx
  exact h1.right y hy
theorem QIs.lt {E : List Ev} {ft : Nat → Prop} (h : QIs w qb n T E ft) : ∀ k, ft k → k < w.heap.size := by
  obtain ⟨sb, pb, hb, ba, eb, mb, hv, X, F, P, first, V, h1, rfl, h3, h4⟩ := h
  exact h4
theorem QIs.mono {T' : Nat} {E : List Ev} {ft : Nat → Prop} (h : QIs w qb n T E ft) (hT : T ≤ T') : QIs w qb n T' E ft := by
  obtain ⟨sb, pb, hb, ba, eb, mb, hv, X, F, P, first, V, h1, h2, h3, h4⟩ := h
  exact ⟨sb, pb, hb, ba, eb, mb, hv, X, F, P, first, V, { h1 with ok := h1.ok.mono hT }, h2, h3, h4⟩
set_option maxRecDepth 100000 in
set_option maxHeartbeats 1000000 in
theorem QFind_none {nm : Int × Int} (h : QIn w qb sb pb hb ba eb mb hv n T X F P first V) (h1 : I64 nm.1) (h2 : I64 nm.2) (hn : ∀ y ∈ X, y.1.name ≠ nm) :
    Calls Tryz.prog 32 #[.pointer (some ⟨qb, 0, none⟩), .int .i64 nm.1, .int .i64 nm.2] w fun e w' => e = .returned (.tuple #[evV zeroEv, .bool false]) ∧ Fr0 none' w w' := by
  have H := Lib.hid h
  obtain ⟨kl, hkl⟩ := name_key_is h1 h2
  have HL := Lib.hid (fun W (hf : Fr0 none' w W) => (h.fr0 hf (fun _ _ h => h)).nm.none (Go.Maps.Keyed.of_law name_law) Tryz.underlying67 (zero_ref W) hn hkl)
  obtain ⟨za, hza⟩ : ∃ za : Int, (0 : Int) = za := ⟨_, rfl⟩
  have hrz : refV 0 0 = .agg #[.int .i64 za, .int .i64 za] := by rw [← hza]; rfl
  rw [hrz] at HL
  unfold nameV at HL
  clear h h1 h2 hkl hn hza hrz
  go_enter Tryz.func32, Tryz.ntmps32
  go_wp2_with fail
  obtain ⟨q, hq⟩ : ∃ q, w.heap.size = q := ⟨_, rfl⟩
  obtain ⟨W1, hW1⟩ : ∃ W, w.alloc (.cells #[.int .i64 0, .int .i64 0, .int .i64 0, .int .i64 0, .int .i64 0] 28) = W := ⟨_, rfl⟩
  have hbq := Lib.hid (show W1.heap[q]? = some (.cells #[.int .i64 0, .int .i64 0, .int .i64 0, .int .i64 0, .int .i64 0] 28 (0, 0)) by rw [← hW1, ← hq]; exact World.alloc_heap_new w _)
  have F1 := Lib.hid (show Fr0 none' w W1 by rw [← hW1]; exact (Fr0.refl _ _).alloc _)
  rw [hW1]
  try rw [hq]
  have Hq := Lib.hid hq
  clear hW1 hq
  have h1 := H.out.fr0 F1.out (fun _ _ h => h)
  have H1 := Lib.hid h1
  refine (qnone_is h1).mono ?_
  rintro e w1 ⟨rfl, rfl⟩
  clear h1
  have c3 := H1.out.c3
  have hl := HL.out W1 F1.out
  obtain ⟨W2, hW2⟩ : ∃ W2, W1.alloc (.cells #[.int .i64 za, .int .i64 za] 112) = W2 := ⟨_, rfl⟩
  have f2 : Fr0 none' w W2 := by rw [← hW2]; exact F1.out.alloc _
  have b2 : W2.heap[q]? = some (.cells #[.int .i64 0, .int .i64 0, .int .i64 0, .int .i64 0, .int .i64 0] 28 (0, 0)) := by rw [← hW2]; exact (Below.heap_alloc _ _ _ (Array.getElem?_eq_some_iff.1 hbq.out).1).trans hbq.out
  clear hbq F1
  have F1 := Lib.hid f2
  have hbq := Lib.hid b2
  clear f2 b2
  have t0 := thaw_in hbq.out 0
  have t1 := thaw_in hbq.out 1
  have t2 := thaw_in hbq.out 2
  have t3 := thaw_in hbq.out 3
  have t4 := thaw_in hbq.out 4
  have y0 := cells_in hbq.out 0
  have y1 := cells_in hbq.out 1
  have y2 := cells_in hbq.out 2
  have y3 := cells_in hbq.out 3
  have y4 := cells_in hbq.out 4
  simp at y0 y1 y2 y3 y4
  go_wp2_with fail
  clear hW2
  have e6 := ev_set5 hbq.out (.int .i64 0) (.int .i64 0) (.int .i64 0) (.int .i64 0) (.int .i64 0)
  have f6 : Fr0 none' w (((((W2.setCell ⟨q, 0, none⟩ (.int .i64 0)).setCell ⟨q, 1, none⟩ (.int .i64 0)).setCell ⟨q, 2, none⟩ (.int .i64 0)).setCell ⟨q, 3, none⟩ (.int .i64 0)).setCell ⟨q, 4, none⟩ (.int .i64 0)) := F1.out.trans' (S' := fun k => k = q) (((((Fr0.refl (fun k => k = q) W2).setCell (fun _ => rfl) _).setCell (fun _ => rfl) _).setCell (fun _ => rfl) _).setCell (fun _ => rfl) _ |>.setCell (fun _ => rfl) _) (fun k hk e => by have := Hq.out; omega)
  generalize (((((W2.setCell ⟨q, 0, none⟩ (.int .i64 0)).setCell ⟨q, 1, none⟩ (.int .i64 0)).setCell ⟨q, 2, none⟩ (.int .i64 0)).setCell ⟨q, 3, none⟩ (.int .i64 0)).setCell ⟨q, 4, none⟩ (.int .i64 0)) = VV at e6 f6 ⊢
  clear y0 y1 y2 y3 y4
  have y0 := cells_in e6 0
  have y1 := cells_in e6 1
  have y2 := cells_in e6 2
  have y3 := cells_in e6 3
  have y4 := cells_in e6 4
  simp at y0 y1 y2 y3 y4
  exact bodyPost_ret (v := .tuple #[evV zeroEv, .bool false]) (by simp [results, Tryz.results32, go_sem, y0, y1, y2, y3, y4, evV, zeroEv]) rfl ⟨rfl, f6⟩
set_option maxRecDepth 100000 in
set_option maxHeartbeats 1000000 in
theorem QFind_some {y : Pd} (h : QIn w qb sb pb hb ba eb mb hv n T X F P first V) (hy : y ∈ X) :
    Calls Tryz.prog 32 #[.pointer (some ⟨qb, 0, none⟩), .int .i64 y.1.key.source, .int .i64 y.1.key.seq] w fun e w' => e = .returned (.tuple #[evV y.1, .bool true]) ∧ Fr0 none' w w' := by
  have H := Lib.hid h
  obtain ⟨x, p⟩ := y
  obtain ⟨pl, hpl, _⟩ := h.ok.tk _ hy
  obtain ⟨hi1, hi2⟩ := rightE_i64 (h.right _ hy)
  obtain ⟨kl, hkl⟩ := name_key_is hi1 hi2
  have HL := Lib.hid (fun W (hf : Fr0 none' w W) => ((h.fr0 hf (fun _ _ h => h)).nm.look (Go.Maps.Keyed.of_law name_law) Tryz.underlying67 (zero_ref W) hy hkl).1)
  rw [lifeP_at hpl] at HL
  unfold nameV refV Ev.name at HL
  simp only at HL ⊢
  have hvx := h.vx _ hy
  have hpn : p < n := h.ok.xlt hy
  have Hvx := Lib.hid hvx
  have z1 : (0 : Int) ≤ (p : Int) := by omega
  have z2 : (p : Int) < (n : Int) := by omega
  simp only at hpl hvx
  clear h hkl hi1 hi2 hpl hvx hy
  go_enter Tryz.func32, Tryz.ntmps32
  go_wp2_with fail
  obtain ⟨q, hq⟩ : ∃ q, w.heap.size = q := ⟨_, rfl⟩
  obtain ⟨W1, hW1⟩ : ∃ W, w.alloc (.cells #[.int .i64 0, .int .i64 0, .int .i64 0, .int .i64 0, .int .i64 0] 28) = W := ⟨_, rfl⟩
  have hbq := Lib.hid (show W1.heap[q]? = some (.cells #[.int .i64 0, .int .i64 0, .int .i64 0, .int .i64 0, .int .i64 0] 28 (0, 0)) by rw [← hW1, ← hq]; exact World.alloc_heap_new w _)
  have F1 := Lib.hid (show Fr0 none' w W1 by rw [← hW1]; exact (Fr0.refl _ _).alloc _)
  rw [hW1]
  try rw [hq]
  have Hq := Lib.hid hq
  clear hW1 hq
  have h1 := H.out.fr0 F1.out (fun _ _ h => h)
  have H1 := Lib.hid h1
  refine (qnone_is h1).mono ?_
  rintro e w1 ⟨rfl, rfl⟩
  clear h1
  have c3 := H1.out.c3
  have hl := HL.out W1 F1.out
  obtain ⟨W2, hW2⟩ : ∃ W2, W1.alloc (.cells #[.int .i64 p, .int .i64 pl.life] 112) = W2 := ⟨_, rfl⟩
  have f12 : Fr0 none' W1 W2 := by rw [← hW2]; exact (Fr0.refl _ _).alloc _
  have f2 : Fr0 none' w W2 := F1.out.trans f12
  have b2 := (f12.block q (Array.getElem?_eq_some_iff.1 hbq.out).1 id).trans hbq.out
  have br2 : W2.heap[W1.heap.size]? = some (.cells #[.int .i64 p, .int .i64 pl.life] 112 (0, 0)) := by rw [← hW2]; exact World.alloc_heap_new W1 _
  have H2 := Lib.hid (H1.out.fr0 f12 (fun _ _ h => h))
  clear hbq F1
  have F1 := Lib.hid f2
  have hbq := Lib.hid b2
  have Br2 := Lib.hid br2
  obtain ⟨q2, hq2⟩ : ∃ q2, W1.heap.size = q2 := ⟨_, rfl⟩
  rw [hq2] at Br2
  have r0 := cells_in Br2.out 0
  have r1 := cells_in Br2.out 1
  simp at r0 r1
  have c2 := H2.out.c2
  obtain ⟨e0, e1, e2, e3, e4⟩ := H2.out.event Hvx.out
  clear f2 b2 f12 br2
  have t0 := thaw_in hbq.out 0
  have t1 := thaw_in hbq.out 1
  have t2 := thaw_in hbq.out 2
  have t3 := thaw_in hbq.out 3
  have t4 := thaw_in hbq.out 4
  have y0 := cells_in hbq.out 0
  have y1 := cells_in hbq.out 1
  have y2 := cells_in hbq.out 2
  have y3 := cells_in hbq.out 3
  have y4 := cells_in hbq.out 4
  simp at y0 y1 y2 y3 y4
  go_wp2_with fail
  clear hW2
  go_still_tail 8, (by kernel_rfl)
  change wpList _ _ _ _ _ W2.drew
  go_wp2_with fail
  obtain ⟨W3, hW3⟩ : ∃ W, (((((W2.setCell ⟨q, 0, none⟩ (.int .i64 x.key.time)).setCell ⟨q, 1, none⟩ (.int .i64 x.key.source)).setCell ⟨q, 2, none⟩ (.int .i64 x.key.seq)).setCell ⟨q, 3, none⟩ (.int .i64 x.to)).setCell ⟨q, 4, none⟩ (.int .i64 x.value)) = W := ⟨_, rfl⟩
  have e8 : W3.drew.heap[q]? = some (.cells #[.int .i64 x.key.time, .int .i64 x.key.source, .int .i64 x.key.seq, .int .i64 x.to, .int .i64 x.value] 28 (0, 0)) := by rw [← hW3]; exact ev_set5 hbq.out _ _ _ _ _
  have f6 : Fr0 none' w W3.drew := by
    rw [← hW3]
    exact (F1.out.trans' (S' := fun k => k = q) ((((((Fr0.refl (fun k => k = q) W2).setCell (fun _ => rfl) _).setCell (fun _ => rfl) _).setCell (fun _ => rfl) _).setCell (fun _ => rfl) _).setCell (fun _ => rfl) _) (fun k hk e => by have := Hq.out; omega)).drew
  try rw [hW3]
  clear y0 y1 y2 y3 y4
  have y0 := cells_in e8 0
  have y1 := cells_in e8 1
  have y2 := cells_in e8 2
  have y3 := cells_in e8 3
  have y4 := cells_in e8 4
  simp at y0 y1 y2 y3 y4
  exact bodyPost_ret (v := .tuple #[evV x, .bool true]) (by simp [results, Tryz.results32, go_sem, y0, y1, y2, y3, y4, evV]) rfl ⟨rfl, f6⟩
/-- Find, on a queue. -/
theorem QIs.find {E : List Ev} {ft : Nat → Prop} (h : QIs w qb n T E ft) {nm : Int × Int} (h1 : I64 nm.1) (h2 : I64 nm.2) :
    Calls Tryz.prog 32 #[.pointer (some ⟨qb, 0, none⟩), .int .i64 nm.1, .int .i64 nm.2] w fun e w' => e = .returned (.tuple #[evV ((findE nm E).getD zeroEv), .bool (findE nm E).isSome]) ∧ Fr0 none' w w' := by
  obtain ⟨sb, pb, hb, ba, eb, mb, hv, X, F, P, first, V, hq, rfl, h3, h4⟩ := h
  cases hf : findE nm (X.map Prod.fst) with
  | none =>
    rw [findE_none] at hf
    exact QFind_none hq h1 h2 (fun y hy => hf _ (List.mem_map.2 ⟨y, hy, rfl⟩))
  | some x =>
    rw [findE_some hq.once] at hf
    obtain ⟨hm, hn⟩ := hf
    obtain ⟨y, hy, rfl⟩ := List.mem_map.1 hm
    subst hn
    exact QFind_some hq hy
end Go.Proofs.YtmcgipilopfgoaaGreat

/-
  The queue: Cancel.
-/
namespace Go.Proofs.YtmcgipilopfgoaaGreat
open Go Go.RowKit Go.ChangeMaps
attribute [local go_sem ↓] Go.wp_at_zero Go.wp_at_succ
attribute [local go_sem] Oper.semAt_some wide_fn wide_depth wide_fnR wide_depthR
variable {w : World} {qb sb pb hb ba eb mb n T : Nat} {hv : Value} {X : List Pd} {F : List Nat} {P : List Pl} {first : Int} {V : List Ev}


set_option maxRecDepth 100000 in
set_option maxHeartbeats 1000000 in
theorem QCancel_none {nm : Int × Int} (h : QIn w qb sb pb hb ba eb mb hv n T X F P first V) (h1 : I64 nm.1) (h2 : I64 nm.2) (hn : ∀ y ∈ X, y.1.name ≠ nm) :
    Calls Tryz.prog 27 #[.pointer (some ⟨qb, 0, none⟩), .int .i64 nm.1, .int .i64 nm.2] w fun e w' => e = .returned (.tuple #[evV zeroEv, .int .i64 6]) ∧ Fr0 none' w w' := by
  have H := Lib.hid h
  obtain ⟨kl, hkl⟩ := name_key_is h1 h2
  have HL := Lib.hid (fun W (hf : Fr0 none' w W) => (h.fr0 hf (fun _ _ h => h)).nm.none (Go.Maps.Keyed.of_law name_law) Tryz.underlying67 (zero_ref W) hn hkl)
  obtain ⟨za, hza⟩ : ∃ za : Int, (0 : Int) = za := ⟨_, rfl⟩
  have hrz : refV 0 0 = .agg #[.int .i64 za, .int .i64 za] := by rw [← hza]; rfl
  rw [hrz] at HL
  unfold nameV at HL
  clear h h1 h2 hkl hn hza hrz
  go_enter Tryz.func27, Tryz.ntmps27
  go_wp2_with fail
  obtain ⟨q, hq⟩ : ∃ q, w.heap.size = q := ⟨_, rfl⟩
  obtain ⟨W1, hW1⟩ : ∃ W, w.alloc (.cells #[.int .i64 0, .int .i64 0, .int .i64 0, .int .i64 0, .int .i64 0] 28) = W := ⟨_, rfl⟩
  have hbq := Lib.hid (show W1.heap[q]? = some (.cells #[.int .i64 0, .int .i64 0, .int .i64 0, .int .i64 0, .int .i64 0] 28 (0, 0)) by rw [← hW1, ← hq]; exact World.alloc_heap_new w _)
  have F1 := Lib.hid (show Fr0 none' w W1 by rw [← hW1]; exact (Fr0.refl _ _).alloc _)
  rw [hW1]
  try rw [hq]
  have Hq := Lib.hid hq
  clear hW1 hq
  have h1 := H.out.fr0 F1.out (fun _ _ h => h)
  have H1 := Lib.hid h1
  refine (qnone_is h1).mono ?_
  rintro e w1 ⟨rfl, rfl⟩
  clear h1
  have c3 := H1.out.c3
  have hl := HL.out W1 F1.out
  obtain ⟨W2, hW2⟩ : ∃ W2, W1.alloc (.cells #[.int .i64 za, .int .i64 za] 112) = W2 := ⟨_, rfl⟩
  have f2 : Fr0 none' w W2 := by rw [← hW2]; exact F1.out.alloc _
  have b2 : W2.heap[q]? = some (.cells #[.int .i64 0, .int .i64 0, .int .i64 0, .int .i64 0, .int .i64 0] 28 (0, 0)) := by rw [← hW2]; exact (Below.heap_alloc _ _ _ (Array.getElem?_eq_some_iff.1 hbq.out).1).trans hbq.out
  clear hbq F1
  have F1 := Lib.hid f2
  have hbq := Lib.hid b2
  clear f2 b2
  have t0 := thaw_in hbq.out 0
  have t1 := thaw_in hbq.out 1
  have t2 := thaw_in hbq.out 2
  have t3 := thaw_in hbq.out 3
  have t4 := thaw_in hbq.out 4
  have y0 := cells_in hbq.out 0
  have y1 := cells_in hbq.out 1
  have y2 := cells_in hbq.out 2
  have y3 := cells_in hbq.out 3
  have y4 := cells_in hbq.out 4
  simp at y0 y1 y2 y3 y4
  go_wp2_with fail
  clear hW2
  have e6 := ev_set5 hbq.out (.int .i64 0) (.int .i64 0) (.int .i64 0) (.int .i64 0) (.int .i64 0)
  have f6 : Fr0 none' w (((((W2.setCell ⟨q, 0, none⟩ (.int .i64 0)).setCell ⟨q, 1, none⟩ (.int .i64 0)).setCell ⟨q, 2, none⟩ (.int .i64 0)).setCell ⟨q, 3, none⟩ (.int .i64 0)).setCell ⟨q, 4, none⟩ (.int .i64 0)) := F1.out.trans' (S' := fun k => k = q) (((((Fr0.refl (fun k => k = q) W2).setCell (fun _ => rfl) _).setCell (fun _ => rfl) _).setCell (fun _ => rfl) _).setCell (fun _ => rfl) _ |>.setCell (fun _ => rfl) _) (fun k hk e => by have := Hq.out; omega)
  generalize (((((W2.setCell ⟨q, 0, none⟩ (.int .i64 0)).setCell ⟨q, 1, none⟩ (.int .i64 0)).setCell ⟨q, 2, none⟩ (.int .i64 0)).setCell ⟨q, 3, none⟩ (.int .i64 0)).setCell ⟨q, 4, none⟩ (.int .i64 0)) = VV at e6 f6 ⊢
  clear y0 y1 y2 y3 y4
  have y0 := cells_in e6 0
  have y1 := cells_in e6 1
  have y2 := cells_in e6 2
  have y3 := cells_in e6 3
  have y4 := cells_in e6 4
  simp at y0 y1 y2 y3 y4
  exact bodyPost_ret (v := .tuple #[evV zeroEv, .int .i64 6]) (by simp [results, Tryz.results27, go_sem, y0, y1, y2, y3, y4, evV, zeroEv]) rfl ⟨rfl, f6⟩
set_option maxRecDepth 100000 in
set_option maxHeartbeats 1000000 in
theorem QCancel_some {y : Pd} (h : QIn w qb sb pb hb ba eb mb hv n T X F P first V) (hy : y ∈ X) (hT : T < 4294967296) :
    Calls Tryz.prog 27 #[.pointer (some ⟨qb, 0, none⟩), .int .i64 y.1.key.source, .int .i64 y.1.key.seq] w fun e w' => e = .returned (.tuple #[evV y.1, .int .i64 0]) ∧ ∃ hv' F' P' first' V', QIn w' qb sb pb hb ba eb mb hv' n T (delX y.2 X) F' P' first' V' ∧ Fr0 (qfoot qb sb pb hb ba eb mb hv) w w' ∧ ∀ g, hv'.ownBlock = some g → hv.ownBlock = some g ∨ w.heap.size ≤ g := by
  have H := Lib.hid h
  obtain ⟨x, p⟩ := y
  obtain ⟨pl, hpl, _⟩ := h.ok.tk _ hy
  have Hpl := Lib.hid hpl
  have Hy := Lib.hid hy
  obtain ⟨hi1, hi2⟩ := rightE_i64 (h.right _ hy)
  obtain ⟨kl, hkl⟩ := name_key_is hi1 hi2
  have HL := Lib.hid (fun W (hf : Fr0 none' w W) => ((h.fr0 hf (fun _ _ h => h)).nm.look (Go.Maps.Keyed.of_law name_law) Tryz.underlying67 (zero_ref W) hy hkl).1)
  rw [lifeP_at hpl] at HL
  unfold nameV refV Ev.name at HL
  simp only at HL ⊢
  have hvx := h.vx _ hy
  have hpn : p < n := h.ok.xlt hy
  have Hvx := Lib.hid hvx
  have z1 : (0 : Int) ≤ (p : Int) := by omega
  have z2 : (p : Int) < (n : Int) := by omega
  simp only at hpl hvx
  clear h hkl hi1 hi2 hpl hvx hy
  go_enter Tryz.func27, Tryz.ntmps27
  go_wp2_with fail
  obtain ⟨q, hq⟩ : ∃ q, w.heap.size = q := ⟨_, rfl⟩
  obtain ⟨W1, hW1⟩ : ∃ W, w.alloc (.cells #[.int .i64 0, .int .i64 0, .int .i64 0, .int .i64 0, .int .i64 0] 28) = W := ⟨_, rfl⟩
  have hbq := Lib.hid (show W1.heap[q]? = some (.cells #[.int .i64 0, .int .i64 0, .int .i64 0, .int .i64 0, .int .i64 0] 28 (0, 0)) by rw [← hW1, ← hq]; exact World.alloc_heap_new w _)
  have F1 := Lib.hid (show Fr0 none' w W1 by rw [← hW1]; exact (Fr0.refl _ _).alloc _)
  rw [hW1]
  try rw [hq]
  have Hq := Lib.hid hq
  clear hW1 hq
  have h1 := H.out.fr0 F1.out (fun _ _ h => h)
  have H1 := Lib.hid h1
  refine (qnone_is h1).mono ?_
  rintro e w1 ⟨rfl, rfl⟩
  clear h1
  have c3 := H1.out.c3
  have hl := HL.out W1 F1.out
  obtain ⟨W2, hW2⟩ : ∃ W2, W1.alloc (.cells #[.int .i64 p, .int .i64 pl.life] 112) = W2 := ⟨_, rfl⟩
  have f12 : Fr0 none' W1 W2 := by rw [← hW2]; exact (Fr0.refl _ _).alloc _
  have f2 : Fr0 none' w W2 := F1.out.trans f12
  have b2 := (f12.block q (Array.getElem?_eq_some_iff.1 hbq.out).1 id).trans hbq.out
  have br2 : W2.heap[W1.heap.size]? = some (.cells #[.int .i64 p, .int .i64 pl.life] 112 (0, 0)) := by rw [← hW2]; exact World.alloc_heap_new W1 _
  have H2 := Lib.hid (H1.out.fr0 f12 (fun _ _ h => h))
  have BQ := Lib.hid hbq.out
  clear hbq F1
  have F1 := Lib.hid f2
  have hbq := Lib.hid b2
  have Br2 := Lib.hid br2
  obtain ⟨q2, hq2⟩ : ∃ q2, W1.heap.size = q2 := ⟨_, rfl⟩
  rw [hq2] at Br2
  have r0 := cells_in Br2.out 0
  have r1 := cells_in Br2.out 1
  simp at r0 r1
  have Hb2 := Lib.hid (show w.heap.size ≤ q ∧ q < W1.heap.size from ⟨by have := Hq.out; omega, by have := (Array.getElem?_eq_some_iff.1 BQ.out).1; exact this⟩)
  clear f2 b2 f12 br2
  have t0 := thaw_in hbq.out 0
  have t1 := thaw_in hbq.out 1
  have t2 := thaw_in hbq.out 2
  have t3 := thaw_in hbq.out 3
  have t4 := thaw_in hbq.out 4
  have y0 := cells_in hbq.out 0
  have y1 := cells_in hbq.out 1
  have y2 := cells_in hbq.out 2
  have y3 := cells_in hbq.out 3
  have y4 := cells_in hbq.out 4
  simp at y0 y1 y2 y3 y4
  go_wp2_with fail
  clear hW2
  have HRem := Lib.hid (Qremove_is H2.out Hy.out Hpl.out hT)
  simp only [evV] at HRem
  refine HRem.out.mono ?_
  rintro e W7 ⟨rfl, hv', hQ7, f57, own7⟩
  have hold : ∀ k, w.heap.size ≤ k → ¬ qfoot qb sb pb hb ba eb mb hv k := fun k hk hf => by have := H.out.lt k hf; omega
  have hb7 := Lib.hid ((f57.block q (Array.getElem?_eq_some_iff.1 hbq.out).1 (hold _ Hb2.out.1)).trans hbq.out)
  have F7 := Lib.hid ((F1.out.mono (fun _ _ h => h.elim)).trans f57)
  have own7 := Lib.hid (show ∀ g, hv'.ownBlock = some g → hv.ownBlock = some g ∨ W2.heap.size ≤ g from own7)
  have HQ7 := Lib.hid hQ7
  have hz2 := (Array.getElem?_eq_some_iff.1 hbq.out).1
  have Hz2 := Lib.hid hz2
  clear y0 y1 y2 y3 y4 t0 t1 t2 t3 t4 hz2 hQ7 f57 hold r0 r1
  have y0 := cells_in hb7.out 0
  have y1 := cells_in hb7.out 1
  have y2 := cells_in hb7.out 2
  have y3 := cells_in hb7.out 3
  have y4 := cells_in hb7.out 4
  simp at y0 y1 y2 y3 y4
  have t0 := thaw_in hb7.out 0
  have t1 := thaw_in hb7.out 1
  have t2 := thaw_in hb7.out 2
  have t3 := thaw_in hb7.out 3
  have t4 := thaw_in hb7.out 4
  go_wp2_with fail
  obtain ⟨W8, hW8⟩ : ∃ W, (((((W7.setCell ⟨q, 0, none⟩ (.int .i64 x.key.time)).setCell ⟨q, 1, none⟩ (.int .i64 x.key.source)).setCell ⟨q, 2, none⟩ (.int .i64 x.key.seq)).setCell ⟨q, 3, none⟩ (.int .i64 x.to)).setCell ⟨q, 4, none⟩ (.int .i64 x.value)) = W := ⟨_, rfl⟩
  try rw [hW8]
  have e8 : W8.heap[q]? = some (.cells #[.int .i64 x.key.time, .int .i64 x.key.source, .int .i64 x.key.seq, .int .i64 x.to, .int .i64 x.value] 28 (0, 0)) := by rw [← hW8]; exact ev_set5 hb7.out _ _ _ _ _
  have f78 : Fr0 (fun k => k = q) W7 W8 := by rw [← hW8]; exact (((((Fr0.refl (fun k => k = q) W7).setCell (fun _ => rfl) _).setCell (fun _ => rfl) _).setCell (fun _ => rfl) _).setCell (fun _ => rfl) _).setCell (fun _ => rfl) _
  have hQ8 := HQ7.out.fr0 f78 (fun k hk e => by
    have h1 : ∀ j, qfoot qb sb pb hb ba eb mb hv j → j ≠ q := fun j hj => by
      have := H.out.lt j hj
      have := Hb2.out.1
      omega
    rcases hk with h | h | h | h | h | h | h | h
    · exact h1 k (.inl h) e
    · exact h1 k (.inr (.inl h)) e
    · exact h1 k (.inr (.inr (.inl h))) e
    · exact h1 k (.inr (.inr (.inr (.inl h)))) e
    · exact h1 k (.inr (.inr (.inr (.inr (.inl h))))) e
    · exact h1 k (.inr (.inr (.inr (.inr (.inr (.inl h)))))) e
    · exact h1 k (.inr (.inr (.inr (.inr (.inr (.inr (.inl h))))))) e
    · rcases own7.out k h with g | g
      · exact h1 k (.inr (.inr (.inr (.inr (.inr (.inr (.inr g))))))) e
      · have := Hz2.out; omega)
  have f8 : Fr0 (qfoot qb sb pb hb ba eb mb hv) w W8 := F7.out.trans' f78 (fun k hk e => by have := Hb2.out.1; omega)
  have own8 : ∀ g, hv'.ownBlock = some g → hv.ownBlock = some g ∨ w.heap.size ≤ g := fun g hg => (own7.out g hg).imp id (fun h => Nat.le_trans F1.out.size h)
  clear y0 y1 y2 y3 y4
  have y0 := cells_in e8 0
  have y1 := cells_in e8 1
  have y2 := cells_in e8 2
  have y3 := cells_in e8 3
  have y4 := cells_in e8 4
  simp at y0 y1 y2 y3 y4
  exact bodyPost_ret (v := .tuple #[evV x, .int .i64 0]) (by simp [results, Tryz.results27, go_sem, y0, y1, y2, y3, y4, evV]) rfl ⟨rfl, hv', _, _, _, _, hQ8, f8, own8⟩
/-- Cancel, on a queue. -/
theorem QIs.cancel {E : List Ev} {ft : Nat → Prop} (h : QIs w qb n T E ft) {nm : Int × Int} (h1 : I64 nm.1) (h2 : I64 nm.2) (hT : T < 4294967296) :
    Calls Tryz.prog 27 #[.pointer (some ⟨qb, 0, none⟩), .int .i64 nm.1, .int .i64 nm.2] w fun e w' => e = .returned (.tuple #[evV ((findE nm E).getD zeroEv), .int .i64 (if (findE nm E).isSome then 0 else 6)]) ∧ QIs w' qb n T (delE nm E) (qgrow ft w w') ∧ Fr0 ft w w' := by
  obtain ⟨sb, pb, hb, ba, eb, mb, hv, X, F, P, first, V, hq, rfl, h3, h4⟩ := h
  cases hf : findE nm (X.map Prod.fst) with
  | none =>
    rw [findE_none] at hf
    rw [delE_none hf]
    refine (QCancel_none hq h1 h2 (fun y hy => hf _ (List.mem_map.2 ⟨y, hy, rfl⟩))).mono ?_
    rintro e w' ⟨rfl, hf⟩
    exact ⟨rfl, (hq.fr0 hf (fun _ _ h => h)).grown rfl h3 h4 hf.size (fun g hg => .inl hg), hf.mono (fun _ _ h => h.elim)⟩
  | some x =>
    rw [findE_some hq.once] at hf
    obtain ⟨hm, hn⟩ := hf
    obtain ⟨y, hy, rfl⟩ := List.mem_map.1 hm
    subst hn
    refine (QCancel_some hq hy hT).mono ?_
    rintro e w' ⟨rfl, hv', F', P', first', V', hq', hf', own⟩
    exact ⟨rfl, hq'.grown (delX_fst hq.once hq.ok.snd hy) h3 h4 hf'.size own, hf'.mono (fun k _ hk => h3 k hk)⟩
end Go.Proofs.YtmcgipilopfgoaaGreat

/-
  slices.IndexFunc at events.
-/
namespace Go.Proofs.YtmcgipilopfgoaaGreat
open Go Go.RowKit
attribute [local go_sem ↓] Go.wp_at_zero Go.wp_at_succ
attribute [local go_sem] Oper.semAt_some wide_fn wide_depth wide_fnR wide_depthR

/-- The first index of what is so; -1 if there is none. -/
def idxI (f : Ev → Bool) (L : List Ev) : Int := match L.findIdx? f with
  | some i => i
  | none => -1
theorem idxI_at {f : Ev → Bool} {L : List Ev} {k : Nat} {x : Ev} (h : ∀ y ∈ L.take k, f y = false) (hx : L[k]? = some x) (hf : f x = true) : idxI f L = k := by
  unfold idxI
  have : L.findIdx? f = some k := by
    rw [List.findIdx?_eq_some_iff_getElem]
    obtain ⟨hk, e⟩ := List.getElem?_eq_some_iff.1 hx
    refine ⟨hk, by rw [e]; exact hf, fun j hj => ?_⟩
    have hjl : j < L.length := by omega
    have := h L[j] (List.mem_take_iff_getElem.2 ⟨j, by omega, rfl⟩)
    simp [this]
  rw [this]
theorem idxI_none {f : Ev → Bool} {L : List Ev} (h : ∀ y ∈ L, f y = false) : idxI f L = -1 := by
  unfold idxI
  have : L.findIdx? f = none := by
    rw [List.findIdx?_eq_none_iff]
    exact h
  rw [this]
set_option maxRecDepth 100000 in
set_option maxHeartbeats 2000000 in
theorem IndexE {w : World} {a : Option Addr} {n cap : Nat} (L : List Ev) (h : EsIn w a L) (hl : L.length = n) (hn : n ≤ 1000000) (g : Nat) (lb : Array Value) (f : Ev → Bool)
    (eg : ∀ args w, (callFunc g args).run Tryz.prog w = .ok (.enter g args) w)
    (hf : ∀ x W, Fr0 none' w W → Calls Tryz.prog g (#[evV x] ++ lb) W fun e w' => e = .returned (.bool (f x)) ∧ Fr0 none' W w') :
    Calls Tryz.prog 43 #[.slice a n cap, .func (.func g) #[] lb] w fun e w' => e = .returned (.int .i64 (idxI f L)) ∧ Fr0 none' w w' := by
  obtain ⟨R, hR⟩ : ∃ R, idxI f L = R := ⟨_, rfl⟩
  rw [hR]
  have HR := Lib.hid hR
  have H := Lib.hid h
  have Hl := Lib.hid hl
  have Hf := Lib.hid hf
  clear h hl hf hR
  go_enter Tryz.func43, Tryz.ntmps43
  go_wp2_with fail
  go_loopw [5, 8] (fun _ i wr => ∃ k : Nat, k ≤ n ∧ i = .int .i64 k ∧ Hid (∀ y ∈ L.take k, f y = false) ∧ Hid (Fr0 none' w wr)) (fun _ i _ => n - (Go.RowKit.intOf i).toNat)
  case atStart => exact ⟨0, Nat.zero_le _, rfl, by unfold Hid; simp, Fr0.refl _ _⟩
  case round =>
    obtain ⟨k, hk, rfl, hpre, hfr⟩ := hrel
    by_cases hlt : k < n
    · obtain ⟨x, hx⟩ : ∃ x, L[k]? = some x := ⟨_, List.getElem?_eq_getElem (by rw [Hl.out]; exact hlt)⟩
      obtain ⟨g2, o, rfl, hxc⟩ := H.out k x hx
      obtain ⟨x0, x1, x2, x3, x4⟩ := hxc.later hfr.out
      have Hx := Lib.hid hx
      have k1 : (0 : Int) ≤ (k : Int) := by omega
      have k2 : (k : Int) < (n : Int) := by omega
      clear hx hxc
      go_wp2_with fail
      refine (Hf.out x wr hfr.out).mono ?_
      rintro e w2 ⟨rfl, hf2⟩
      have hfin := Lib.hid (hfr.out.trans hf2)
      cases hfx : f x
      · have hnext := Lib.hid (show ∀ y ∈ L.take (k + 1), f y = false from fun y hy => by
          rw [List.take_add_one, Hx.out, List.mem_append] at hy
          rcases hy with hy | hy
          · exact hpre.out y hy
          · simp at hy; subst hy; exact hfx)
        clear hf2 hfx
        go_wp2
        go_roundw
        case rel => exact ⟨k + 1, by omega, by go_num, hnext, hfin⟩
        case measure => simp [Go.RowKit.intOf]; omega
      · have hres := Lib.hid (show (k : Int) = R by rw [← HR.out]; exact (idxI_at hpre.out Hx.out hfx).symm)
        clear hf2 hfx
        go_wp2
        go_ret
        exact ⟨by rw [← hres.out]; rfl, hfin.out⟩
    · have hkn : k = n := by omega
      have hres := Lib.hid (show (-1 : Int) = R by rw [← HR.out]; exact (idxI_none (fun y hy => hpre.out y (by rw [List.take_of_length_le (by rw [Hl.out]; omega)]; exact hy))).symm)
      go_wp2
      go_ret
      exact ⟨by rw [← hres.out]; rfl, hfr.out⟩
end Go.Proofs.YtmcgipilopfgoaaGreat

/-
  The queue: check.
-/
namespace Go.Proofs.YtmcgipilopfgoaaGreat
open Go Go.RowKit Go.ChangeMaps
attribute [local go_sem ↓] Go.wp_at_zero Go.wp_at_succ
attribute [local go_sem] Oper.semAt_some wide_fn wide_depth wide_fnR wide_depthR

/-- Whether the event with an index has a name that is there. -/
def dupB (E l : List Ev) (i : Nat) : Bool := match l[i]? with
  | some x => (E ++ l.take i).any (fun y => y.name == x.name)
  | none => false
/-- The first index of an event with a name that is there; -1 if there is none. -/
def dupI (E l : List Ev) : Int := match (List.range l.length).find? (dupB E l) with
  | some i => i
  | none => -1
theorem dupI_at {E l : List Ev} {k : Nat} (hk : k < l.length) (h : ∀ i, i < k → dupB E l i = false) (hd : dupB E l k = true) : dupI E l = k := by
  unfold dupI
  have : (List.range l.length).find? (dupB E l) = some k := by
    rw [List.find?_range_eq_some]
    exact ⟨hd, List.mem_range.2 hk, fun j hj => by simp [h j hj]⟩
  rw [this]
theorem dupI_none {E l : List Ev} (h : ∀ i, i < l.length → dupB E l i = false) : dupI E l = -1 := by
  unfold dupI
  have : (List.range l.length).find? (dupB E l) = none := by
    rw [List.find?_eq_none]
    intro i hi
    rw [h i (List.mem_range.1 hi)]
    simp
  rw [this]
/-- What check tells. -/
def chkE (E l : List Ev) : Int × Int := if 0 ≤ idxI (fun x => !decide (RightE x)) l then (idxI (fun x => !decide (RightE x)) l, 100) else if 0 ≤ dupI E l then (dupI E l, 101) else (-1, 0)
theorem idxI_cases (f : Ev → Bool) (L : List Ev) : (idxI f L = -1 ∧ ∀ x ∈ L, f x = false) ∨ ∃ k : Nat, idxI f L = k ∧ k < L.length ∧ ∃ x, L[k]? = some x ∧ f x = true ∧ ∀ y ∈ L.take k, f y = false := by
  unfold idxI
  cases h : L.findIdx? f with
  | none =>
    rw [List.findIdx?_eq_none_iff] at h
    exact .inl ⟨rfl, h⟩
  | some k =>
    rw [List.findIdx?_eq_some_iff_getElem] at h
    obtain ⟨hk, h1, h2⟩ := h
    refine .inr ⟨k, rfl, hk, L[k], List.getElem?_eq_getElem hk, h1, fun y hy => ?_⟩
    obtain ⟨j, hj, rfl⟩ := List.mem_take_iff_getElem.1 hy
    have := h2 j (by omega)
    simpa using this
theorem dupI_cases (E l : List Ev) : (dupI E l = -1 ∧ ∀ i, i < l.length → dupB E l i = false) ∨ ∃ k : Nat, dupI E l = k ∧ k < l.length ∧ dupB E l k = true ∧ ∀ i, i < k → dupB E l i = false := by
  unfold dupI
  cases h : (List.range l.length).find? (dupB E l) with
  | none =>
    rw [List.find?_eq_none] at h
    exact .inl ⟨rfl, fun i hi => by simpa using h i (List.mem_range.2 hi)⟩
  | some k =>
    rw [List.find?_range_eq_some] at h
    exact .inr ⟨k, rfl, List.mem_range.1 h.2.1, h.1, fun i hi => by simpa using h.2.2 i hi⟩
/-- Where nothing is there twice, all names are different. -/
theorem dup_once {E l : List Ev} (hE : OnceE E) (h : ∀ i, i < l.length → dupB E l i = false) : OnceE (l ++ E) := by
  have key : ∀ k, k ≤ l.length → OnceE (l.take k ++ E) := by
    intro k
    induction k with
    | zero => intro _; simpa using hE
    | succ k ih =>
      intro hk
      have h1 := ih (by omega)
      obtain ⟨x, hx⟩ : ∃ x, l[k]? = some x := ⟨_, List.getElem?_eq_getElem (by omega)⟩
      have h2 := h k (by omega)
      unfold dupB at h2
      rw [hx] at h2
      simp only [List.any_append, Bool.or_eq_false_iff, List.any_eq_false, beq_iff_eq] at h2
      rw [List.take_add_one, hx]
      refine OnceE.perm (E := x :: (l.take k ++ E)) (once_cons.2 ⟨fun y hy => ?_, h1⟩) ?_
      · rcases List.mem_append.1 hy with hy | hy
        · exact h2.2 y hy
        · exact h2.1 y hy
      · simp only [Option.toList_some, List.append_assoc, List.singleton_append]
        exact List.perm_middle.symm
  have := key l.length (Nat.le_refl _)
  rwa [List.take_length] at this
section
variable {P : Program} {k t e : TypeId} {w : World} {b n : Nat} {c : Int × Int → Option Int}
theorem MetIs.put (h : MetIs P k w b n c) (K : Go.WideMaps.KeyLaw P k) (ht : P.underlying t = some (.map k e)) (hn : n < maxLen) {nm : Int × Int} {kl : Lit} (hk : keyOf P k (nameV nm) = some kl) (v : Int) :
    ∃ w', (Instr.mapUpdate t (.map (some b)) (nameV nm) (.int .i64 v)).run P w = .ok () w' ∧ MetIs P k w' b (n + 1) (fun m => if m = nm then some v else c m) ∧ Fr0 (fun j => j = b) w w' := by
  obtain ⟨D, h1, h2⟩ := h
  have hD := h1.tidy (Go.Maps.Keyed.of_law K)
  obtain ⟨w', hr, ho', hm⟩ := h1.store (Go.Maps.Keyed.of_law K) ht hn hk (show intR (.int .i64 v) = some (_, _) from rfl)
  have hg := hm.grown
  refine ⟨w', hr, ⟨_, ho', fun m kl' hk' => ?_⟩, ⟨hg.os, hg.tape, hg.output, hg.size, fun i hi hs => hg.block i hi (fun e => hs (Option.some.inj e))⟩⟩
  by_cases hm : m = nm
  · subst hm
    rw [hk] at hk'
    cases hk'
    simp only [if_pos rfl]
    exact ⟨Maps.has_put_same hD.isMap ((Go.Maps.Keyed.of_law K).key hk) _, Maps.atKey_put_same hD.isMap ((Go.Maps.Keyed.of_law K).key hk) _ _⟩
  · have hne : kl' ≠ kl := fun e => by
      subst e
      have := K.inj hk' hk
      unfold nameV at this
      simp only [Value.agg.injEq, Array.mk.injEq, List.cons.injEq, Value.int.injEq, true_and, and_true] at this
      exact hm (Prod.ext this.1 this.2)
    simp only [if_neg hm]
    rw [Maps.has_put_other hne, Maps.atKey_put_other hne]
    exact h2 m kl' hk'
end
variable {w : World} {qb sb pb hb ba eb mb n T : Nat} {hv : Value} {X : List Pd} {F : List Nat} {P : List Pl} {first : Int} {V : List Ev}
theorem QIn.looks (h : QIn w qb sb pb hb ba eb mb hv n T X F P first V) {nm : Int × Int} (h1 : I64 nm.1) (h2 : I64 nm.2) : ∃ pa pb : Int, ∀ W, Fr0 none' w W → (Instr.lookup 67 (.map (some mb)) (nameV nm) true).run Tryz.prog W = .ok (.tuple #[.agg #[.int .i64 pa, .int .i64 pb], .bool ((X.map Prod.fst).any (fun y => y.name == nm))]) W := by
  obtain ⟨kl, hkl⟩ := name_key_is h1 h2
  by_cases hx : ∃ y ∈ X, y.1.name = nm
  · obtain ⟨y, hy, rfl⟩ := hx
    have ha : (X.map Prod.fst).any (fun z => z.name == y.1.name) = true := by
      rw [List.any_eq_true]
      exact ⟨y.1, List.mem_map.2 ⟨y, hy, rfl⟩, by simp⟩
    rw [ha]
    exact ⟨_, _, fun W hf => ((h.fr0 hf (fun _ _ h => h)).nm.look (Go.Maps.Keyed.of_law name_law) Tryz.underlying67 (zero_ref W) hy hkl).1⟩
  · have hn : ∀ y ∈ X, y.1.name ≠ nm := fun y hy e => hx ⟨y, hy, e⟩
    have ha : (X.map Prod.fst).any (fun z => z.name == nm) = false := by
      rw [List.any_eq_false]
      intro z hz
      obtain ⟨y, hy, rfl⟩ := List.mem_map.1 hz
      simpa using hn y hy
    rw [ha]
    exact ⟨0, 0, fun W hf => (h.fr0 hf (fun _ _ h => h)).nm.none (Go.Maps.Keyed.of_law name_law) Tryz.underlying67 (zero_ref W) hn hkl⟩
theorem viaT' {T : Type} {P : Program} {c : Code} {K : Act → World → Prop} {Q : Exit → Act → World → Prop} {a : Act} {w : World} (F : T → World → Prop) (vs : T → List (Nat × Value))
    (t : ∀ q W, F q W → K ((vs q).foldl (fun a p => a.put (some p.1) p.2) a) W)
    (h : (∀ q W, F q W → K ((vs q).foldl (fun a p => a.put (some p.1) p.2) a) W) → c.wp P (Exit.then K Q) a w) : c.wp P (Exit.then K Q) a w := h t
set_option maxRecDepth 100000 in
theorem wrong_any (x : Ev) (w : World) : Calls Tryz.prog 79 #[evV x] w fun e w' => e = .returned (.bool (!decide (RightE x))) ∧ Fr0 none' w w' := by
  have HR := Lib.hid (QRight_is x)
  obtain ⟨b, hb⟩ : ∃ b, decide (RightE x) = b := ⟨_, rfl⟩
  rw [hb] at HR ⊢
  clear hb
  unfold evV at HR ⊢
  go_enter Tryz.func79, Tryz.ntmps79
  go_wp2_with fail
  refine (HR.out _).mono ?_
  rintro e w1 ⟨rfl, hf⟩
  go_wp2
  go_ret
  exact ⟨rfl, ((Fr0.refl none' w).alloc _).trans hf⟩
set_option maxRecDepth 100000 in
set_option maxHeartbeats 2000000 in
theorem Qcheck_is (h : QIn w qb sb pb hb ba eb mb hv n T X F P first V) {a : Option Addr} {m cap : Nat} (l : List Ev) (hl : EsIn w a l) (hm : l.length = m) (hm' : m ≤ 100000) :
    Calls Tryz.prog 61 #[.pointer (some ⟨qb, 0, none⟩), .slice a m cap] w fun e w' => e = .returned (.tuple #[.int .i64 (chkE (X.map Prod.fst) l).1, .int .i64 (chkE (X.map Prod.fst) l).2]) ∧ Fr0 none' w w' := by
  obtain ⟨R, hR⟩ : ∃ R, chkE (X.map Prod.fst) l = R := ⟨_, rfl⟩
  rw [hR]
  have HR := Lib.hid hR
  have H := Lib.hid h
  have Hl := Lib.hid hl
  have Hm := Lib.hid hm
  have HI := Lib.hid (IndexE (cap := cap) l hl hm (by omega) 79 #[] (fun x => !decide (RightE x)) (by intro args w; rfl) (fun x W _ => wrong_any x W))
  clear h hl hm hR
  rcases idxI_cases (fun x => !decide (RightE x)) l with ⟨hi, hall⟩ | ⟨k, hi, hkl, _⟩
  · rw [hi] at HI
    have HA := Lib.hid hall
    have HIe := Lib.hid hi
    clear hi hall
    go_enter Tryz.func61, Tryz.ntmps61
    go_wp2_with fail
    refine HI.out.mono ?_
    rintro e w1 ⟨rfl, hf1⟩
    have F1 := Lib.hid hf1
    clear hf1
    have hmm := @run_makeMap Tryz.prog
    go_wp2_with fail
    clear hmm
    obtain ⟨B, hB⟩ : ∃ B, w1.heap.size = B := ⟨_, rfl⟩
    obtain ⟨W2, hW2⟩ : ∃ W, w1.alloc (.map #[] 0) = W := ⟨_, rfl⟩
    have M2 := Lib.hid (show MetIs Tryz.prog 115 W2 B 0 (fun _ => none) by rw [← hW2, ← hB]; exact met_made w1)
    have F2 := Lib.hid (show Fr0 none' w W2 by rw [← hW2]; exact F1.out.alloc _)
    have HB := Lib.hid (show w.heap.size ≤ B by rw [← hB]; exact F1.out.size)
    rw [hW2]
    try rw [hB]
    clear hW2 hB
    go_loopw [8, 9, 10, 11, 12, 13, 22] (fun _ _ _ _ _ _ i wr => ∃ (k : Nat) (c : Int × Int → Option Int), k ≤ m ∧ i = .int .i64 k ∧ Hid (∀ i, i < k → dupB (X.map Prod.fst) l i = false) ∧ Hid (MetIs Tryz.prog 115 wr B k c) ∧ Hid (∀ nm, (c nm).isSome = (l.take k).any (fun y => y.name == nm)) ∧ Hid (Fr0 none' w wr)) (fun _ _ _ _ _ _ i _ => m - (Go.RowKit.intOf i).toNat)
    case atStart => exact ⟨0, _, Nat.zero_le _, rfl, (fun i hi => absurd hi (Nat.not_lt_zero i)), M2, (fun nm => by simp), F2⟩
    case round =>
      obtain ⟨k, c, hk, rfl, hpre, hmet, hcs, hfr⟩ := hrel
      by_cases hlt : k < m
      · obtain ⟨x, hx⟩ : ∃ x, l[k]? = some x := ⟨_, List.getElem?_eq_getElem (by rw [Hm.out]; exact hlt)⟩
        obtain ⟨g2, o, rfl, hxc⟩ := Hl.out k x hx
        obtain ⟨x0, x1, x2, x3, x4⟩ := hxc.later hfr.out
        have hre : RightE x := by simpa using HA.out x (List.mem_of_getElem? hx)
        have Hi64 := Lib.hid (rightE_i64 hre)
        have Hx := Lib.hid hx
        have k1 : (0 : Int) ≤ (k : Int) := by omega
        have k2 : (k : Int) < (m : Int) := by omega
        clear hx hxc hre
        go_wp2_with fail
        obtain ⟨q, hq⟩ : ∃ q, wr.heap.size = q := ⟨_, rfl⟩
        obtain ⟨W3, hW3⟩ : ∃ W, wr.alloc (.cells #[.int .i64 x.key.time, .int .i64 x.key.source, .int .i64 x.key.seq, .int .i64 x.to, .int .i64 x.value] 28) = W := ⟨_, rfl⟩
        have hb3 := Lib.hid (show W3.heap[q]? = some (.cells #[.int .i64 x.key.time, .int .i64 x.key.source, .int .i64 x.key.seq, .int .i64 x.to, .int .i64 x.value] 28 (0, 0)) by rw [← hW3, ← hq]; exact World.alloc_heap_new wr _)
        have F3r := Lib.hid (show Fr0 none' wr W3 by rw [← hW3]; exact (Fr0.refl _ _).alloc _)
        have XB := Lib.hid (show EAt W3 q 0 x by refine ⟨?_, ?_, ?_, ?_, ?_⟩ <;> rw [cells_in hb3.out] <;> rfl)
        rw [hW3]
        try rw [hq]
        clear hW3 hq x0 x1 x2 x3 x4
        have H3 := Lib.hid (H.out.fr0 (hfr.out.trans F3r.out) (fun _ _ h => h))
        have C3 := Lib.hid H3.out.c3
        obtain ⟨pa, pb, hlook⟩ := H3.out.looks Hi64.out.1 Hi64.out.2
        obtain ⟨th, hth⟩ : ∃ th, (X.map Prod.fst).any (fun y => y.name == x.name) = th := ⟨_, rfl⟩
        rw [hth] at hlook
        have HLook := Lib.hid hlook
        have Hth := Lib.hid hth
        clear hlook hth
        refine viaT' (T := Nat → Value) (fun _ W => Fr0 none' W3 W) (fun us => [(28, us 0), (29, us 1), (30, us 2), (31, us 3), (32, us 4), (33, us 5), (34, us 6), (27, us 7), (35, us 8), (36, us 9), (10, us 10), (11, .bool th)]) (fun us W hF => ?_) (fun hT => ?_)
        · simp only [List.foldl, Act.put, List.setIfInBounds_toArray, List.set_cons_zero, List.set_cons_succ]
          have F3 := Lib.hid ((hfr.out.trans F3r.out).trans hF)
          obtain ⟨kl, hkl⟩ := name_key_is Hi64.out.1 Hi64.out.2
          have Hkl := Lib.hid hkl
          have HM := Lib.hid (fun (W' : World) (hf : Fr0 none' W W') => (hmet.out.fr0 ((F3r.out.trans hF).trans hf) id))
          obtain ⟨ci, hci⟩ : ∃ ci, (c x.name).getD 0 = ci := ⟨_, rfl⟩
          obtain ⟨be, hbe⟩ : ∃ be, (c x.name).isSome = be := ⟨_, rfl⟩
          have HL2 := Lib.hid (fun (W' : World) (hf : Fr0 none' W W') => ((HM.out W' hf).look name_law Tryz.underlying141 (Tryz.zeroValue3 W') hkl).1)
          rw [hci, hbe] at HL2
          have Hbe := Lib.hid (show (l.take k).any (fun y => y.name == x.name) = be by rw [← hcs.out, hbe])
          obtain ⟨x0, x1, x2, x3, x4⟩ := XB.out.later hF
          simp only [Nat.zero_add] at x0 x1 x2 x3 x4
          have XB := Lib.hid (XB.out.later hF)
          have hdup := Lib.hid (show dupB (X.map Prod.fst) l k = (th || be) by
            unfold dupB
            rw [Hx.out]
            simp only [List.any_append]
            rw [Hth.out, Hbe.out])
          clear hkl hci hbe hF
          go_wp2_with fail
          refine (of_any x _).mono ?_
          rintro e w5 ⟨rfl, hf5⟩
          have hl2 := HL2.out w5 hf5
          obtain ⟨x0, x1, x2, x3, x4⟩ := XB.out.later hf5
          simp only [Nat.zero_add] at x0 x1 x2 x3 x4
          have XB := Lib.hid (XB.out.later hf5)
          have hM5 := Lib.hid (HM.out w5 hf5)
          have F5 := Lib.hid (F3.out.trans hf5)
          clear hf5 HM HL2
          cases th
          · cases be
            · go_wp2_with fail
              refine (of_any x _).mono ?_
              rintro e w6 ⟨rfl, hf6⟩
              obtain ⟨w7, hrun, hm7, hf7⟩ := (hM5.out.fr0 hf6 id).put name_law Tryz.underlying141 (by unfold maxLen; omega) Hkl.out (k : Int)
              have hm7 := Lib.hid hm7
              have F7 := Lib.hid ((F5.out.trans hf6).trans' hf7 (fun i hi e => by have := HB.out; omega))
              clear hf6 hf7 x0 x1 x2 x3 x4 hl2
              go_wp2_with fail
              clear hrun
              go_roundw
              case rel =>
                refine ⟨k + 1, _, by omega, by go_num, fun i hi => ?_, hm7, fun nm => ?_, F7⟩
                · by_cases e : i = k
                  · rw [e, hdup.out]; rfl
                  · exact hpre.out i (by omega)
                · rw [List.take_add_one, Hx.out]
                  simp only [Option.toList_some, List.any_append, List.any_cons, List.any_nil, Bool.or_false]
                  rw [← hcs.out nm]
                  by_cases e : nm = x.name
                  · rw [if_pos e]; simp [e]
                  · rw [if_neg e]
                    have : (x.name == nm) = false := by simpa using fun h => e h.symm
                    rw [this, Bool.or_false]
              case measure => simp [Go.RowKit.intOf]; omega
            · skip
              have hres := Lib.hid (show ((k : Int), (101 : Int)) = R by
                rw [← HR.out]
                unfold chkE
                rw [HIe.out, if_neg (by omega), dupI_at (by rw [Hm.out]; exact hlt) hpre.out (by rw [hdup.out]; simp), if_pos (by omega)])
              go_wp2_with fail
              go_ret2
              exact ⟨by rw [← hres.out]; rfl, F5.out⟩
          · skip
            have hres := Lib.hid (show ((k : Int), (101 : Int)) = R by
              rw [← HR.out]
              unfold chkE
              rw [HIe.out, if_neg (by omega), dupI_at (by rw [Hm.out]; exact hlt) hpre.out (by rw [hdup.out]; simp), if_pos (by omega)])
            go_wp2_with fail
            go_ret2
            exact ⟨by rw [← hres.out]; rfl, F5.out⟩
        · simp only [List.foldl, Act.put, List.setIfInBounds_toArray, List.set_cons_zero, List.set_cons_succ] at hT
          have HT := Lib.hid hT
          clear hT
          refine wp_region_held_drew (S := fun W' => Fr0 none' W3 W') (by kernel_rfl) ((Fr0.refl none' W3).drew) (fun hHeld => ?_)
          refine take_on (i := 0) (v := .pointer (some ⟨qb, 0, none⟩)) rfl (by kernel_rfl) (by kernel_rfl) (by kernel_rfl) (fun _ _ _ h => h) (by kernel_rfl) (fun W' hSW => ?_) (by assumption) ?_
          · (try dsimp only at hSW)
            first | (go_simp; done) | (have s0 := hSW.later C3.out; obtain ⟨s1, s2, s3, s4, s5⟩ := XB.out.later hSW; (try simp only [Nat.zero_add] at s1 s2 s3 s4 s5); (try simp only [evV]); go_simp; done) | (have hl := HLook.out W' hSW; go_simp; done) | exact rfl | (go_simp; rfl)
          try simp only [Act.put, List.setIfInBounds_toArray, List.set_cons_zero, List.set_cons_succ]
          refine take_on (i := 1) (v := .pointer (some ⟨qb, 0, none⟩)) rfl (by kernel_rfl) (by kernel_rfl) (by kernel_rfl) (fun _ _ _ h => h) (by kernel_rfl) (fun W' hSW => ?_) (by assumption) ?_
          · (try dsimp only at hSW)
            first | (go_simp; done) | (have s0 := hSW.later C3.out; obtain ⟨s1, s2, s3, s4, s5⟩ := XB.out.later hSW; (try simp only [Nat.zero_add] at s1 s2 s3 s4 s5); (try simp only [evV]); go_simp; done) | (have hl := HLook.out W' hSW; go_simp; done) | exact rfl | (go_simp; rfl)
          try simp only [Act.put, List.setIfInBounds_toArray, List.set_cons_zero, List.set_cons_succ]
          refine take_on (i := 2) (v := .pointer (some ⟨qb, 3, none⟩)) rfl (by kernel_rfl) (by kernel_rfl) (by kernel_rfl) (fun _ _ _ h => h) (by kernel_rfl) (fun W' hSW => ?_) (by assumption) ?_
          · (try dsimp only at hSW)
            first | (go_simp; done) | (have s0 := hSW.later C3.out; obtain ⟨s1, s2, s3, s4, s5⟩ := XB.out.later hSW; (try simp only [Nat.zero_add] at s1 s2 s3 s4 s5); (try simp only [evV]); go_simp; done) | (have hl := HLook.out W' hSW; go_simp; done) | exact rfl | (go_simp; rfl)
          try simp only [Act.put, List.setIfInBounds_toArray, List.set_cons_zero, List.set_cons_succ]
          refine take_on (i := 3) (v := .map (some mb)) rfl (by kernel_rfl) (by kernel_rfl) (by kernel_rfl) (fun _ _ _ h => h) (by kernel_rfl) (fun W' hSW => ?_) (by assumption) ?_
          · (try dsimp only at hSW)
            first | (go_simp; done) | (have s0 := hSW.later C3.out; obtain ⟨s1, s2, s3, s4, s5⟩ := XB.out.later hSW; (try simp only [Nat.zero_add] at s1 s2 s3 s4 s5); (try simp only [evV]); go_simp; done) | (have hl := HLook.out W' hSW; go_simp; done) | exact rfl | (go_simp; rfl)
          try simp only [Act.put, List.setIfInBounds_toArray, List.set_cons_zero, List.set_cons_succ]
          refine take_on (i := 4) (v := evV x) rfl (by kernel_rfl) (by kernel_rfl) (by kernel_rfl) (fun _ _ _ h => h) (by kernel_rfl) (fun W' hSW => ?_) (by assumption) ?_
          · (try dsimp only at hSW)
            first | (go_simp; done) | (have s0 := hSW.later C3.out; obtain ⟨s1, s2, s3, s4, s5⟩ := XB.out.later hSW; (try simp only [Nat.zero_add] at s1 s2 s3 s4 s5); (try simp only [evV]); go_simp; done) | (have hl := HLook.out W' hSW; go_simp; done) | exact rfl | (go_simp; rfl)
          try simp only [Act.put, List.setIfInBounds_toArray, List.set_cons_zero, List.set_cons_succ]
          refine wpAnyH_ready (rs := [5, 10]) (by kernel_rfl) (by simp) (AllReadyH.cons (op_at rfl) (fun K hK => ?_) (AllReadyH.cons (op_at rfl) (fun K hK => ?_) AllReadyH.nil))
          · rw [if_pos (by kernel_rfl)]
            go_simp
            refine (of_any x _).mono ?_
            rintro e w5 ⟨rfl, hf5⟩
            have G := Lib.hid (hHeld.trans hf5)
            refine hK.out _ _ G.out (fun hHeld => ?_)
            clear hK K
            try simp only [Act.put, List.setIfInBounds_toArray, List.set_cons_zero, List.set_cons_succ]
            refine take_on (i := 6) (v := .tuple #[.agg #[.int .i64 pa, .int .i64 pb], .bool th]) rfl (by kernel_rfl) (by kernel_rfl) (by kernel_rfl) (fun _ _ _ h => h) (by kernel_rfl) (fun W' hSW => ?_) (by assumption) ?_
            · (try dsimp only at hSW)
              first | (go_simp; done) | (have s0 := hSW.later C3.out; obtain ⟨s1, s2, s3, s4, s5⟩ := XB.out.later hSW; (try simp only [Nat.zero_add] at s1 s2 s3 s4 s5); (try simp only [evV]); go_simp; done) | (have hl := HLook.out W' hSW; go_simp; done) | exact rfl | (go_simp; rfl)
            try simp only [Act.put, List.setIfInBounds_toArray, List.set_cons_zero, List.set_cons_succ]
            refine take_on (i := 7) (v := .tuple #[.agg #[.int .i64 pa, .int .i64 pb], .bool th]) rfl (by kernel_rfl) (by kernel_rfl) (by kernel_rfl) (fun _ _ _ h => h) (by kernel_rfl) (fun W' hSW => ?_) (by assumption) ?_
            · (try dsimp only at hSW)
              first | (go_simp; done) | (have s0 := hSW.later C3.out; obtain ⟨s1, s2, s3, s4, s5⟩ := XB.out.later hSW; (try simp only [Nat.zero_add] at s1 s2 s3 s4 s5); (try simp only [evV]); go_simp; done) | (have hl := HLook.out W' hSW; go_simp; done) | exact rfl | (go_simp; rfl)
            try simp only [Act.put, List.setIfInBounds_toArray, List.set_cons_zero, List.set_cons_succ]
            refine take_on (i := 8) (v := .agg #[.int .i64 pa, .int .i64 pb]) rfl (by kernel_rfl) (by kernel_rfl) (by kernel_rfl) (fun _ _ _ h => h) (by kernel_rfl) (fun W' hSW => ?_) (by assumption) ?_
            · (try dsimp only at hSW)
              first | (go_simp; done) | (have s0 := hSW.later C3.out; obtain ⟨s1, s2, s3, s4, s5⟩ := XB.out.later hSW; (try simp only [Nat.zero_add] at s1 s2 s3 s4 s5); (try simp only [evV]); go_simp; done) | (have hl := HLook.out W' hSW; go_simp; done) | exact rfl | (go_simp; rfl)
            try simp only [Act.put, List.setIfInBounds_toArray, List.set_cons_zero, List.set_cons_succ]
            refine take_on (i := 9) (v := .bool th) rfl (by kernel_rfl) (by kernel_rfl) (by kernel_rfl) (fun _ _ _ h => h) (by kernel_rfl) (fun W' hSW => ?_) (by assumption) ?_
            · (try dsimp only at hSW)
              first | (go_simp; done) | (have s0 := hSW.later C3.out; obtain ⟨s1, s2, s3, s4, s5⟩ := XB.out.later hSW; (try simp only [Nat.zero_add] at s1 s2 s3 s4 s5); (try simp only [evV]); go_simp; done) | (have hl := HLook.out W' hSW; go_simp; done) | exact rfl | (go_simp; rfl)
            try simp only [Act.put, List.setIfInBounds_toArray, List.set_cons_zero, List.set_cons_succ]
            refine take_call (i := 10) rfl (by kernel_rfl) (by kernel_rfl) (fun K hK => ?_)
            go_simp
            obtain ⟨qa, hqa⟩ : ∃ qa, w5.heap.size = qa := ⟨_, rfl⟩
            obtain ⟨WA, hWA⟩ : ∃ W, (w5.alloc (.cells #[.int .i64 0, .int .i64 0] 112)) = W := ⟨_, rfl⟩
            have hbA := Lib.hid (show WA.heap[qa]? = some (.cells #[.int .i64 0, .int .i64 0] 112 (0, 0)) by rw [← hWA, ← hqa]; exact World.alloc_heap_new w5 _)
            have HQa := Lib.hid (show W3.heap.size ≤ qa by rw [← hqa]; exact hHeld.size)
            have G := Lib.hid (show Fr0 none' W3 WA by rw [← hWA]; exact (hHeld.alloc _))
            rw [hWA]
            try rw [hqa]
            clear hWA hqa
            refine hK.out _ _ G.out (fun hHeld => ?_)
            clear hK K
            try simp only [Act.put, List.setIfInBounds_toArray, List.set_cons_zero, List.set_cons_succ]
            refine take_call (i := 11) rfl (by kernel_rfl) (by kernel_rfl) (fun K hK => ?_)
            have r0 := cells_in hbA.out 0
            have r1 := cells_in hbA.out 1
            simp at r0 r1
            have t0 := thaw_in hbA.out 0
            have t1 := thaw_in hbA.out 1
            go_simp
            clear r0 r1 t0 t1
            have G := Lib.hid ((hHeld.setCell (b := qa) (o := 0) (fun h => absurd h (Nat.not_lt.2 HQa.out)) (.int .i64 pa)).setCell (b := qa) (o := 1) (fun h => absurd h (Nat.not_lt.2 HQa.out)) (.int .i64 pb))
            refine hK.out _ _ G.out (fun hHeld => ?_)
            clear hK K
            try simp only [Act.put, List.setIfInBounds_toArray, List.set_cons_zero, List.set_cons_succ]
            refine take_call (i := 12) rfl (by kernel_rfl) (by kernel_rfl) (fun K hK => ?_)
            go_simp
            have G := Lib.hid hHeld
            refine hK.out _ _ G.out (fun hHeld => ?_)
            clear hK K
            try simp only [Act.put, List.setIfInBounds_toArray, List.set_cons_zero, List.set_cons_succ]
            refine wpAnyH_done (by kernel_rfl) ?_ _
            exact HT.out (fun n => ([.pointer (some ⟨qb, 0, none⟩), .pointer (some ⟨qb, 0, none⟩), .pointer (some ⟨qb, 3, none⟩), .map (some mb), evV x, nameV x.name, .tuple #[.agg #[.int .i64 pa, .int .i64 pb], .bool th], .tuple #[.agg #[.int .i64 pa, .int .i64 pb], .bool th], .agg #[.int .i64 pa, .int .i64 pb], .bool th, .pointer (some ⟨qa, 0, none⟩)] : List Value).getD n undef) _ hHeld
          · rw [if_pos (by kernel_rfl)]
            go_simp
            clear hHeld
            have hHeld : Fr0 none' W3 W3 := Fr0.refl _ _
            obtain ⟨qa, hqa⟩ : ∃ qa, W3.heap.size = qa := ⟨_, rfl⟩
            obtain ⟨WA, hWA⟩ : ∃ W, (W3.alloc (.cells #[.int .i64 0, .int .i64 0] 112)).drew = W := ⟨_, rfl⟩
            have hbA := Lib.hid (show WA.heap[qa]? = some (.cells #[.int .i64 0, .int .i64 0] 112 (0, 0)) by rw [← hWA, ← hqa]; exact World.alloc_heap_new W3 _)
            have HQa := Lib.hid (show W3.heap.size ≤ qa by rw [← hqa]; exact hHeld.size)
            have G := Lib.hid (show Fr0 none' W3 WA by rw [← hWA]; exact (hHeld.alloc _).drew)
            rw [hWA]
            try rw [hqa]
            clear hWA hqa
            refine hK.out _ _ G.out (fun hHeld => ?_)
            clear hK K
            try simp only [Act.put, List.setIfInBounds_toArray, List.set_cons_zero, List.set_cons_succ]
            refine take_call (i := 5) rfl (by kernel_rfl) (by kernel_rfl) (fun K hK => ?_)
            go_simp
            refine (of_any x _).mono ?_
            rintro e w5 ⟨rfl, hf5⟩
            have hbA := Lib.hid ((hf5.block qa (Array.getElem?_eq_some_iff.1 hbA.out).1 id).trans hbA.out)
            have G := Lib.hid (hHeld.trans hf5)
            refine hK.out _ _ G.out (fun hHeld => ?_)
            clear hK K
            try simp only [Act.put, List.setIfInBounds_toArray, List.set_cons_zero, List.set_cons_succ]
            refine take_on (i := 6) (v := .tuple #[.agg #[.int .i64 pa, .int .i64 pb], .bool th]) rfl (by kernel_rfl) (by kernel_rfl) (by kernel_rfl) (fun _ _ _ h => h) (by kernel_rfl) (fun W' hSW => ?_) (by assumption) ?_
            · (try dsimp only at hSW)
              first | (go_simp; done) | (have s0 := hSW.later C3.out; obtain ⟨s1, s2, s3, s4, s5⟩ := XB.out.later hSW; (try simp only [Nat.zero_add] at s1 s2 s3 s4 s5); (try simp only [evV]); go_simp; done) | (have hl := HLook.out W' hSW; go_simp; done) | exact rfl | (go_simp; rfl)
            try simp only [Act.put, List.setIfInBounds_toArray, List.set_cons_zero, List.set_cons_succ]
            refine take_on (i := 7) (v := .tuple #[.agg #[.int .i64 pa, .int .i64 pb], .bool th]) rfl (by kernel_rfl) (by kernel_rfl) (by kernel_rfl) (fun _ _ _ h => h) (by kernel_rfl) (fun W' hSW => ?_) (by assumption) ?_
            · (try dsimp only at hSW)
              first | (go_simp; done) | (have s0 := hSW.later C3.out; obtain ⟨s1, s2, s3, s4, s5⟩ := XB.out.later hSW; (try simp only [Nat.zero_add] at s1 s2 s3 s4 s5); (try simp only [evV]); go_simp; done) | (have hl := HLook.out W' hSW; go_simp; done) | exact rfl | (go_simp; rfl)
            try simp only [Act.put, List.setIfInBounds_toArray, List.set_cons_zero, List.set_cons_succ]
            refine take_on (i := 8) (v := .agg #[.int .i64 pa, .int .i64 pb]) rfl (by kernel_rfl) (by kernel_rfl) (by kernel_rfl) (fun _ _ _ h => h) (by kernel_rfl) (fun W' hSW => ?_) (by assumption) ?_
            · (try dsimp only at hSW)
              first | (go_simp; done) | (have s0 := hSW.later C3.out; obtain ⟨s1, s2, s3, s4, s5⟩ := XB.out.later hSW; (try simp only [Nat.zero_add] at s1 s2 s3 s4 s5); (try simp only [evV]); go_simp; done) | (have hl := HLook.out W' hSW; go_simp; done) | exact rfl | (go_simp; rfl)
            try simp only [Act.put, List.setIfInBounds_toArray, List.set_cons_zero, List.set_cons_succ]
            refine take_on (i := 9) (v := .bool th) rfl (by kernel_rfl) (by kernel_rfl) (by kernel_rfl) (fun _ _ _ h => h) (by kernel_rfl) (fun W' hSW => ?_) (by assumption) ?_
            · (try dsimp only at hSW)
              first | (go_simp; done) | (have s0 := hSW.later C3.out; obtain ⟨s1, s2, s3, s4, s5⟩ := XB.out.later hSW; (try simp only [Nat.zero_add] at s1 s2 s3 s4 s5); (try simp only [evV]); go_simp; done) | (have hl := HLook.out W' hSW; go_simp; done) | exact rfl | (go_simp; rfl)
            try simp only [Act.put, List.setIfInBounds_toArray, List.set_cons_zero, List.set_cons_succ]
            refine take_call (i := 11) rfl (by kernel_rfl) (by kernel_rfl) (fun K hK => ?_)
            have r0 := cells_in hbA.out 0
            have r1 := cells_in hbA.out 1
            simp at r0 r1
            have t0 := thaw_in hbA.out 0
            have t1 := thaw_in hbA.out 1
            go_simp
            clear r0 r1 t0 t1
            have G := Lib.hid ((hHeld.setCell (b := qa) (o := 0) (fun h => absurd h (Nat.not_lt.2 HQa.out)) (.int .i64 pa)).setCell (b := qa) (o := 1) (fun h => absurd h (Nat.not_lt.2 HQa.out)) (.int .i64 pb))
            refine hK.out _ _ G.out (fun hHeld => ?_)
            clear hK K
            try simp only [Act.put, List.setIfInBounds_toArray, List.set_cons_zero, List.set_cons_succ]
            refine take_call (i := 12) rfl (by kernel_rfl) (by kernel_rfl) (fun K hK => ?_)
            go_simp
            have G := Lib.hid hHeld
            refine hK.out _ _ G.out (fun hHeld => ?_)
            clear hK K
            try simp only [Act.put, List.setIfInBounds_toArray, List.set_cons_zero, List.set_cons_succ]
            refine wpAnyH_done (by kernel_rfl) ?_ _
            exact HT.out (fun n => ([.pointer (some ⟨qb, 0, none⟩), .pointer (some ⟨qb, 0, none⟩), .pointer (some ⟨qb, 3, none⟩), .map (some mb), evV x, nameV x.name, .tuple #[.agg #[.int .i64 pa, .int .i64 pb], .bool th], .tuple #[.agg #[.int .i64 pa, .int .i64 pb], .bool th], .agg #[.int .i64 pa, .int .i64 pb], .bool th, .pointer (some ⟨qa, 0, none⟩)] : List Value).getD n undef) _ hHeld
      · have hkm : k = m := by omega
        have hres := Lib.hid (show ((-1 : Int), (0 : Int)) = R by
          rw [← HR.out]
          unfold chkE
          rw [HIe.out, if_neg (by omega), dupI_none (fun i hi => hpre.out i (by rw [Hm.out] at hi; omega)), if_neg (by omega)])
        go_wp2
        go_ret2
        exact ⟨by rw [← hres.out]; rfl, hfr.out⟩
  · rw [hi] at HI
    have hres := Lib.hid (show ((k : Int), (100 : Int)) = R by rw [← HR.out]; unfold chkE; rw [if_pos (by rw [hi]; omega), hi])
    have d1 : decide ((k : Int) ≥ 0) = true := decide_eq_true (by omega)
    have d2 : decide ((0 : Int) ≤ (k : Int)) = true := decide_eq_true (by omega)
    clear hi hkl
    go_enter Tryz.func61, Tryz.ntmps61
    go_wp2_with fail
    refine HI.out.mono ?_
    rintro e w1 ⟨rfl, hf1⟩
    go_wp2_with fail
    go_ret2
    exact ⟨by rw [← hres.out]; rfl, hf1⟩
end Go.Proofs.YtmcgipilopfgoaaGreat

/-
  The laws' helpers: at, made, events.
-/
namespace Go.Proofs.YtmcgipilopfgoaaGreat
open Go Go.RowKit Go.ChangeMaps
attribute [local go_sem ↓] Go.wp_at_zero Go.wp_at_succ
attribute [local go_sem] Oper.semAt_some wide_fn wide_depth wide_fnR wide_depthR

/-- An event in small numbers. -/
structure Sme where
  t : Int
  s : Int
  q : Int
  o : Int
deriving Inhabited
def Sme.ok (x : Sme) : Prop := (0 ≤ x.t ∧ x.t < 256) ∧ (0 ≤ x.s ∧ x.s < 256) ∧ (0 ≤ x.q ∧ x.q < 256) ∧ (0 ≤ x.o ∧ x.o < 256)
def smeV (x : Sme) : Value := .agg #[.int .u8 x.t, .int .u8 x.s, .int .u8 x.q, .int .u8 x.o]
/-- A slice of them. -/
def SmesAt (w : World) (v : Value) (xs : List Sme) : Prop := ∃ a cap, v = .slice a xs.length cap ∧ xs.length ≤ cap ∧ ∀ j x, xs[j]? = some x → x.ok ∧ ∃ g o, a = some ⟨g, o, none⟩ ∧ w.cell? ⟨g, o + j * 4, none⟩ = some (.int .u8 x.t) ∧ w.cell? ⟨g, o + j * 4 + 1, none⟩ = some (.int .u8 x.s) ∧ w.cell? ⟨g, o + j * 4 + 2, none⟩ = some (.int .u8 x.q) ∧ w.cell? ⟨g, o + j * 4 + 3, none⟩ = some (.int .u8 x.o)
theorem SmesAt.later {w w' : World} {v : Value} {xs : List Sme} (h : SmesAt w v xs) (hf : Fr0 none' w w') : SmesAt w' v xs := by
  obtain ⟨a, cap, h1, h2, h3⟩ := h
  refine ⟨a, cap, h1, h2, fun j x hj => ?_⟩
  obtain ⟨h4, g, o, h5, c0, c1, c2, c3⟩ := h3 j x hj
  exact ⟨h4, g, o, h5, hf.later c0, hf.later c1, hf.later c2, hf.later c3⟩
def madeE (x : Sme) : Ev := ⟨⟨x.t % 16, x.s % 5, x.q % 32⟩, 1 + x.o % 16, x.t - x.o⟩
theorem madeE_right {x : Sme} : RightE (madeE x) := by
  unfold RightE RightK madeE
  simp only
  omega
set_option maxRecDepth 100000 in
set_option maxHeartbeats 1000000 in
theorem made_any (x : Sme) (hx : x.ok) (w : World) : Calls Tryz.prog 37 #[smeV x] w fun e w' => e = .returned (evV (madeE x)) ∧ Fr0 none' w w' := by
  obtain ⟨⟨a1, a2⟩, ⟨b1, b2⟩, ⟨c1, c2⟩, d1, d2⟩ := hx
  obtain ⟨r, hr⟩ : ∃ r, madeE x = r := ⟨_, rfl⟩
  rw [hr]
  have HR := Lib.hid hr
  clear hr
  unfold smeV evV
  go_enter Tryz.func37, Tryz.ntmps37
  go_wp2_with fail
  obtain ⟨V, hV⟩ : ∃ V, ((w.alloc (.cells #[.int .u8 x.t, .int .u8 x.s, .int .u8 x.q, .int .u8 x.o] 80)).alloc (.cells #[.int .i64 (x.t % 16), .int .i64 (x.s % 5), .int .i64 (x.q % 32), .int .i64 (1 + x.o % 16), .int .i64 (x.t - x.o)] 28)) = V := ⟨_, rfl⟩
  have hf : Fr0 none' w V := by rw [← hV]; exact ((Fr0.refl _ _).alloc _).alloc _
  have hb : V.heap[w.heap.size + 1]? = some (.cells #[.int .i64 (x.t % 16), .int .i64 (x.s % 5), .int .i64 (x.q % 32), .int .i64 (1 + x.o % 16), .int .i64 (x.t - x.o)] 28 (0, 0)) := by
    rw [← hV]
    have := World.alloc_heap_new (w.alloc (.cells #[.int .u8 x.t, .int .u8 x.s, .int .u8 x.q, .int .u8 x.o] 80)) (.cells #[.int .i64 (x.t % 16), .int .i64 (x.s % 5), .int .i64 (x.q % 32), .int .i64 (1 + x.o % 16), .int .i64 (x.t - x.o)] 28)
    rwa [World.size_alloc] at this
  rw [hV]
  have y0 := cells_in hb 0
  have y1 := cells_in hb 1
  have y2 := cells_in hb 2
  have y3 := cells_in hb 3
  have y4 := cells_in hb 4
  simp at y0 y1 y2 y3 y4
  have hr := HR.out
  unfold madeE at hr
  subst hr
  exact bodyPost_ret (v := .agg #[.int .i64 (x.t % 16), .int .i64 (x.s % 5), .int .i64 (x.q % 32), .int .i64 (1 + x.o % 16), .int .i64 (x.t - x.o)]) (by simp [results, Tryz.results37, go_sem, y0, y1, y2, y3, y4]) rfl ⟨rfl, hf⟩
set_option maxRecDepth 100000 in
set_option maxHeartbeats 1000000 in
theorem at_any (a b c : Int) (w : World) : Calls Tryz.prog 8 #[.int .i64 a, .int .i64 b, .int .i64 c] w fun e w' => e = .returned (evV ⟨⟨a, b, c⟩, 1, 0⟩) ∧ Fr0 none' w w' := by
  unfold evV
  go_enter Tryz.func8, Tryz.ntmps8
  go_wp2_with fail
  obtain ⟨V, hV⟩ : ∃ V, (w.alloc (.cells #[.int .i64 a, .int .i64 b, .int .i64 c, .int .i64 1, .int .i64 0] 28)) = V := ⟨_, rfl⟩
  have hf : Fr0 none' w V := by rw [← hV]; exact (Fr0.refl _ _).alloc _
  have hb : V.heap[w.heap.size]? = some (.cells #[.int .i64 a, .int .i64 b, .int .i64 c, .int .i64 1, .int .i64 0] 28 (0, 0)) := by
    rw [← hV]
    exact World.alloc_heap_new w _
  rw [hV]
  have y0 := cells_in hb 0
  have y1 := cells_in hb 1
  have y2 := cells_in hb 2
  have y3 := cells_in hb 3
  have y4 := cells_in hb 4
  simp at y0 y1 y2 y3 y4
  exact bodyPost_ret (v := .agg #[.int .i64 a, .int .i64 b, .int .i64 c, .int .i64 1, .int .i64 0]) (by simp [results, Tryz.results8, go_sem, y0, y1, y2, y3, y4]) rfl ⟨rfl, hf⟩
/-- Of events with one name the first one. -/
def dedE (l : List Ev) : List Ev := l.foldl (fun acc e => if acc.any (fun y => y.name == e.name) then acc else acc ++ [e]) []
theorem dedE_snoc (l : List Ev) (x : Ev) : dedE (l ++ [x]) = if (dedE l).any (fun y => y.name == x.name) then dedE l else dedE l ++ [x] := by unfold dedE; rw [List.foldl_append]; rfl
theorem snoc_indE {p : List Ev → Prop} (h0 : p []) (hs : ∀ l x, p l → p (l ++ [x])) : ∀ (n : Nat) (l : List Ev), l.length = n → p l
  | 0, l, h => by rw [List.eq_nil_of_length_eq_zero h]; exact h0
  | n + 1, l, h => by
    rcases List.eq_nil_or_concat l with rfl | ⟨L, b, rfl⟩
    · exact h0
    · rw [List.concat_eq_append] at h ⊢
      exact hs L b (snoc_indE h0 hs n L (by simpa using h))
theorem dedE_once (l : List Ev) : OnceE (dedE l) := by
  refine snoc_indE (p := fun l => OnceE (dedE l)) (by simp [dedE, OnceE]) (fun l x ih => ?_) _ l rfl
  rw [dedE_snoc]
  split
  · exact ih
  · next h =>
    have h' : ∀ y ∈ dedE l, y.name ≠ x.name := by simpa using h
    exact OnceE.perm (once_cons.2 ⟨h', ih⟩) (List.perm_append_comm (l₁ := [x]))
theorem dedE_sub (l : List Ev) : ∀ x ∈ dedE l, x ∈ l := by
  refine snoc_indE (p := fun l => ∀ x ∈ dedE l, x ∈ l) (by simp [dedE]) (fun l x ih => ?_) _ l rfl
  rw [dedE_snoc]
  intro z hz
  split at hz
  · exact List.mem_append_left _ (ih z hz)
  · rcases List.mem_append.1 hz with h | h
    · exact List.mem_append_left _ (ih z h)
    · exact List.mem_append_right _ h
theorem dedE_le (l : List Ev) : (dedE l).length ≤ l.length := by
  refine snoc_indE (p := fun l => (dedE l).length ≤ l.length) (by simp [dedE]) (fun l x ih => ?_) _ l rfl
  rw [dedE_snoc]
  split
  · simp; omega
  · simp; omega
theorem dedE_any (l : List Ev) (nm : Int × Int) : (dedE l).any (fun y => y.name == nm) = l.any (fun y => y.name == nm) := by
  refine snoc_indE (p := fun l => (dedE l).any (fun y => y.name == nm) = l.any (fun y => y.name == nm)) (by simp [dedE]) (fun l x ih => ?_) _ l rfl
  rw [dedE_snoc, List.any_append, ← ih]
  simp only [List.any_cons, List.any_nil, Bool.or_false]
  split
  · next h =>
    by_cases e : x.name = nm
    · rw [e] at h
      rw [h]; simp
    · have : (x.name == nm) = false := by simpa using e
      rw [this, Bool.or_false]
  · rw [List.any_append]
    simp
/-- The events of small numbers. -/
def evsE (xs : List Sme) (most : Nat) : List Ev := dedE ((xs.take most).map madeE)
theorem evsE_right {xs : List Sme} {most : Nat} : ∀ x ∈ evsE xs most, RightE x := fun x hx => by
  have := dedE_sub _ x hx
  obtain ⟨y, _, rfl⟩ := List.mem_map.1 this
  exact madeE_right
theorem evsE_once (xs : List Sme) (most : Nat) : OnceE (evsE xs most) := dedE_once _
theorem evsE_le (xs : List Sme) (most : Nat) : (evsE xs most).length ≤ most := by
  have h1 := dedE_le ((xs.take most).map madeE)
  rw [List.length_map, List.length_take] at h1
  unfold evsE
  omega
def cntN (l : List Ev) (nm : Int × Int) : Nat := l.countP (fun y => y.name == nm)
theorem cntN_any (l : List Ev) (nm : Int × Int) : l.any (fun y => y.name == nm) = decide (cntN l nm ≠ 0) := by
  unfold cntN
  by_cases h : l.any (fun y => y.name == nm) = true
  · rw [h]
    have : 0 < l.countP (fun y => y.name == nm) := List.countP_pos_iff.2 (by simpa using h)
    exact (decide_eq_true (by omega)).symm
  · rw [Bool.not_eq_true] at h
    rw [h]
    have : l.countP (fun y => y.name == nm) = 0 := List.countP_eq_zero.2 (by simpa using h)
    exact (decide_eq_false (by omega)).symm
theorem cntN_snoc (l : List Ev) (x : Ev) (nm : Int × Int) : cntN (l ++ [x]) nm = cntN l nm + if nm = x.name then 1 else 0 := by
  unfold cntN
  rw [List.countP_append, List.countP_singleton]
  by_cases e : nm = x.name
  · simp [e]
  · rw [if_neg e, if_neg (by simpa using fun h => e h.symm)]
set_option maxRecDepth 100000 in
set_option maxHeartbeats 4000000 in
theorem events_any (xs : List Sme) (most : Nat) (hm : most ≤ 100) {v : Value} (w : World) (hv : SmesAt w v xs) :
    Calls Tryz.prog 12 #[v, .int .i64 most] w fun e w' => ∃ r, e = .returned r ∧ w'.ownsRow w.heap.size 28 5 r (evsE xs most).length (flatEv (evsE xs most)) ∧ Fr0 none' w w' := by
  obtain ⟨i0, hi, hz0, hz1, hz2⟩ := info_parts info_event0
  obtain ⟨a, cap, rfl, hcap, hxs⟩ := hv
  obtain ⟨n, hn⟩ : ∃ n, xs.length = n := ⟨_, rfl⟩
  rw [hn] at hcap ⊢
  have Hn := Lib.hid hn
  have Hxs := Lib.hid hxs
  clear hn hxs
  have hmm := @run_makeMap Tryz.prog
  go_enter Tryz.func12, Tryz.ntmps12
  go_wp2_with fail
  clear hmm
  obtain ⟨m, hmn⟩ : ∃ m, min n most = m := ⟨_, rfl⟩
  have e1 : (min (n : Int) (most : Int)) = (m : Int) := by omega
  rw [e1]
  have e2 : (m : Int).toNat = m := by omega
  have e3 : max (m : Int) 0 = (m : Int) := by omega
  rw [e2, e3]
  have Hm := Lib.hid hmn
  have hm1 : m ≤ 100 := by omega
  have hmcap : m ≤ cap := by omega
  have hmx : ∀ k, k < m → ∃ x, xs[k]? = some x := fun k hk => ⟨_, List.getElem?_eq_getElem (by have := Hn.out; omega)⟩
  have hev : evsE xs most = dedE ((xs.take m).map madeE) := by
    unfold evsE
    rw [← hmn, ← Hn.out, Nat.min_comm, ← List.take_eq_take_min]
  have Hmx := Lib.hid hmx
  have Hev := Lib.hid hev
  clear e1 e2 e3 hmn hmx hev
  obtain ⟨B, hB⟩ : ∃ B, w.heap.size = B := ⟨_, rfl⟩
  obtain ⟨W2, hW2⟩ : ∃ W, w.alloc (.map #[] 0) = W := ⟨_, rfl⟩
  have M2 := Lib.hid (show MetIs Tryz.prog 82 W2 B 0 (fun _ => none) by rw [← hW2, ← hB]; exact met_made w)
  have F2 := Lib.hid (show Fr0 none' w W2 by rw [← hW2]; exact (Fr0.refl _ _).alloc _)
  have HB := Lib.hid hB
  rw [hW2]
  try rw [hB]
  clear hW2 hB
  go_loopw [5, 8, 9, 10, 19] (fun v _ _ _ i wr => ∃ k : Nat, k ≤ m ∧ i = .int .i64 k ∧ Hid (wr.ownsRow (B + 1) 28 5 v (dedE ((xs.take k).map madeE)).length (flatEv (dedE ((xs.take k).map madeE)))) ∧ Hid (MetIs Tryz.prog 82 wr B k (fun nm => if cntN ((xs.take k).map madeE) nm = 0 then none else some (cntN ((xs.take k).map madeE) nm : Nat))) ∧ Hid (Fr0 none' w wr)) (fun _ _ _ _ i _ => m - (Go.RowKit.intOf i).toNat)
  case atStart => exact ⟨0, Nat.zero_le _, rfl, World.ownsRow_nil _ _ _ _, M2, F2⟩
  case round =>
    obtain ⟨k, hk, rfl, hrow, hmet, hfr⟩ := hrel
    by_cases hlt : k < m
    · obtain ⟨x, hx⟩ := Hmx.out k hlt
      obtain ⟨hok, g2, o, rfl, c0, c1, c2, c3⟩ := Hxs.out k x hx
      have x0 := hfr.out.later c0
      have x1 := hfr.out.later c1
      have x2 := hfr.out.later c2
      have x3 := hfr.out.later c3
      have Hx := Lib.hid hx
      have HM := Lib.hid (fun W => made_any x hok W)
      have HR := Lib.hid (rightE_i64 (madeE_right (x := x)))
      obtain ⟨y, hy⟩ : ∃ y, madeE x = y := ⟨_, rfl⟩
      rw [hy] at HM HR
      have Hy := Lib.hid hy
      simp only [smeV] at HM
      have k1 : (0 : Int) ≤ (k : Int) := by omega
      have k2 : (k : Int) < (m : Int) := by omega
      clear hx hok c0 c1 c2 c3 hy
      go_wp2_with fail
      refine (HM.out _).mono ?_
      rintro e w4 ⟨rfl, hf4⟩
      have F4 := Lib.hid (show Fr0 none' wr w4 from ((Fr0.refl none' wr).alloc _).trans hf4)
      clear x0 x1 x2 x3 hf4 HM
      simp only [evV]
      have HM4 := Lib.hid (hmet.out.fr0 F4.out id)
      go_wp2_with fail
      have hrow4 := Lib.hid (ownsRow_fr0 hrow.out F4.out (fun _ _ h => h))
      obtain ⟨q, hq⟩ : ∃ q, w4.heap.size = q := ⟨_, rfl⟩
      obtain ⟨W5, hW5⟩ : ∃ W, (w4.alloc (.cells #[.int .i64 y.key.time, .int .i64 y.key.source, .int .i64 y.key.seq, .int .i64 y.to, .int .i64 y.value] 28)).alloc (.cells #[.int .i64 y.key.source, .int .i64 y.key.seq] 82) = W := ⟨_, rfl⟩
      have F5 := Lib.hid (show Fr0 none' w4 W5 by rw [← hW5]; exact ((Fr0.refl none' w4).alloc _).alloc _)
      have hbE := Lib.hid (show W5.heap[q]? = some (.cells #[.int .i64 y.key.time, .int .i64 y.key.source, .int .i64 y.key.seq, .int .i64 y.to, .int .i64 y.value] 28 (0, 0)) by rw [← hW5, ← hq]; exact (((Fr0.refl none' (w4.alloc (.cells #[.int .i64 y.key.time, .int .i64 y.key.source, .int .i64 y.key.seq, .int .i64 y.to, .int .i64 y.value] 28))).alloc (.cells #[.int .i64 y.key.source, .int .i64 y.key.seq] 82)).block w4.heap.size (by rw [World.size_alloc]; omega) id).trans (World.alloc_heap_new w4 _))
      have hbN := Lib.hid (show W5.heap[q + 1]? = some (.cells #[.int .i64 y.key.source, .int .i64 y.key.seq] 82 (0, 0)) by
        rw [← hW5, ← hq]
        have := World.alloc_heap_new (w4.alloc (.cells #[.int .i64 y.key.time, .int .i64 y.key.source, .int .i64 y.key.seq, .int .i64 y.to, .int .i64 y.value] 28)) (.cells #[.int .i64 y.key.source, .int .i64 y.key.seq] 82)
        rwa [World.size_alloc] at this)
      have HqB := Lib.hid (show B < q by rw [← hq]; exact HM4.out.lt)
      rw [hW5]
      try rw [hq]
      clear hW5 hq
      have F5D := Lib.hid ((Fr0.refl none' W5).drew)
      obtain ⟨WD, hWD⟩ : ∃ W, W5.drew = W := ⟨_, rfl⟩
      rw [hWD] at F5D
      have HM5 := Lib.hid (HM4.out.fr0 (F5.out.trans F5D.out) id)
      have hbE := Lib.hid ((F5D.out.block q (Array.getElem?_eq_some_iff.1 hbE.out).1 id).trans hbE.out)
      have hbN := Lib.hid ((F5D.out.block (q + 1) (Array.getElem?_eq_some_iff.1 hbN.out).1 id).trans hbN.out)
      have F5 := Lib.hid (F5.out.trans F5D.out)
      clear F5D
      obtain ⟨kl, hkl⟩ := pair_key_is HR.out.1 HR.out.2
      obtain ⟨cn, hcn⟩ : ∃ cn, cntN ((xs.take k).map madeE) y.name = cn := ⟨_, rfl⟩
      have Hcn := Lib.hid hcn
      have hcl : cn ≤ k := by
        rw [← hcn]
        have h1 : cntN ((xs.take k).map madeE) y.name ≤ ((xs.take k).map madeE).length := List.countP_le_length
        rw [List.length_map, List.length_take] at h1
        omega
      obtain ⟨hlk, hup⟩ := (show _ ∧ _ from ⟨(HM5.out.look pair_law Tryz.underlying78 (Tryz.zeroValue3 WD) hkl).2, HM5.out.up pair_law Tryz.underlying78 (by unfold maxLen; omega) (fun u => Tryz.zeroValue3 u) hkl⟩)
      obtain ⟨o1, st, hr1, hl1, hup⟩ := hup
      obtain ⟨o2, hr2, hm2⟩ := hup ((cn : Int) + 1)
      have hcd : (if cn = 0 then none else some ((cn : Nat) : Int)).getD 0 = ((cn : Nat) : Int) := by
        split
        · next h => rw [h]; rfl
        · rfl
      simp only [hcn] at hlk hr1 hl1
      rw [hcd] at hlk hr1 hl1
      have hnv : nameV y.name = .agg #[.int .i64 y.key.source, .int .i64 y.key.seq] := rfl
      rw [hnv] at hlk hr1 hl1
      have Hm2 := Lib.hid hm2
      have Hkl := Lib.hid hkl
      have Hr1 := Lib.hid hr1
      have Hr2 := Lib.hid hr2
      have Hl1 := Lib.hid hl1
      have n0 := cells_in hbN.out 0
      have n1 := cells_in hbN.out 1
      simp at n0 n1
      have w1 : IntKind.i64.wrap ((cn : Int) + 1) = (cn : Int) + 1 := IntWalk.i64_in _ (by omega)
      clear hcn hcd hnv hm2 hup hkl hr1 hr2 hl1
      refine wp_region_Z (z := 6) (S := fun W' => W'.cell? ⟨q + 1, 0, none⟩ = some (.int .i64 y.key.source) ∧ W'.cell? ⟨q + 1, 1, none⟩ = some (.int .i64 y.key.seq) ∧ (Instr.lookup 78 (.map (some B)) (.agg #[.int .i64 y.key.source, .int .i64 y.key.seq]) false).run Tryz.prog W' = .ok (.int .i64 cn) W') (by kernel_rfl) ?_
      rw [hWD]
      clear hWD
      have hHeld : WD.cell? ⟨q + 1, 0, none⟩ = some (.int .i64 y.key.source) ∧ WD.cell? ⟨q + 1, 1, none⟩ = some (.int .i64 y.key.seq) ∧ (Instr.lookup 78 (.map (some B)) (.agg #[.int .i64 y.key.source, .int .i64 y.key.seq]) false).run Tryz.prog WD = .ok (.int .i64 cn) WD := ⟨n0, n1, hlk⟩
      clear n0 n1 hlk
      refine takeZ_on (i := 0) (v := .map (some B)) rfl (by kernel_rfl) (by kernel_rfl) (by kernel_rfl) (by kernel_rfl) (fun _ _ _ h => h) (by kernel_rfl) (fun W' hSW => ?_) (by assumption) ?_
      · obtain ⟨s1, s2, s3⟩ := hSW
        first | (go_simp; done) | exact rfl | (go_simp; rfl) | (go_simp; omega)
      try simp only [Act.put, List.setIfInBounds_toArray, List.set_cons_zero, List.set_cons_succ]
      refine takeZ_on (i := 1) (v := .agg #[.int .i64 y.key.source, .int .i64 y.key.seq]) rfl (by kernel_rfl) (by kernel_rfl) (by kernel_rfl) (by kernel_rfl) (fun _ _ _ h => h) (by kernel_rfl) (fun W' hSW => ?_) (by assumption) ?_
      · obtain ⟨s1, s2, s3⟩ := hSW
        first | (go_simp; done) | exact rfl | (go_simp; rfl) | (go_simp; omega)
      try simp only [Act.put, List.setIfInBounds_toArray, List.set_cons_zero, List.set_cons_succ]
      refine takeZ_on (i := 2) (v := .int .i64 cn) rfl (by kernel_rfl) (by kernel_rfl) (by kernel_rfl) (by kernel_rfl) (fun _ _ _ h => h) (by kernel_rfl) (fun W' hSW => ?_) (by assumption) ?_
      · obtain ⟨s1, s2, s3⟩ := hSW
        first | (go_simp; done) | exact rfl | (go_simp; rfl) | (go_simp; omega)
      try simp only [Act.put, List.setIfInBounds_toArray, List.set_cons_zero, List.set_cons_succ]
      refine takeZ_on (i := 3) (v := .int .i64 ((cn : Int) + 1)) rfl (by kernel_rfl) (by kernel_rfl) (by kernel_rfl) (by kernel_rfl) (fun _ _ _ h => h) (by kernel_rfl) (fun W' hSW => ?_) (by assumption) ?_
      · obtain ⟨s1, s2, s3⟩ := hSW
        first | (go_simp; done) | exact rfl | (go_simp; rfl) | (go_simp; omega)
      try simp only [Act.put, List.setIfInBounds_toArray, List.set_cons_zero, List.set_cons_succ]
      refine takeZ_call (i := 4) rfl (by kernel_rfl) (by kernel_rfl) (fun K hK => ?_)
      have hr1 := Hr1.out
      go_simp
      clear hr1
      obtain ⟨W6, hW6⟩ : ∃ W, setBlock WD B o1 = W := ⟨_, rfl⟩
      have F6 := Lib.hid (show Fr0 (fun j => j = B) WD W6 by rw [← hW6]; exact (Fr0.refl (fun j => j = B) WD).setBlock (fun _ => rfl) _)
      have hB6 : W6.heap[B]? = some o1 := by rw [← hW6]; exact setBlock_same (Array.getElem?_eq_getElem HM5.out.lt)
      rw [hW6]
      have hHeld6 : W6.cell? ⟨q + 1, 0, none⟩ = some (.int .i64 y.key.source) ∧ W6.cell? ⟨q + 1, 1, none⟩ = some (.int .i64 y.key.seq) ∧ (Instr.lookup 78 (.map (some B)) (.agg #[.int .i64 y.key.source, .int .i64 y.key.seq]) false).run Tryz.prog W6 = .ok (.int .i64 cn) W6 := by
        have hb := (F6.out.block (q + 1) (Array.getElem?_eq_some_iff.1 hbN.out).1 (fun e => by have := HqB.out; omega)).trans hbN.out
        refine ⟨?_, ?_, Hl1.out W6 hB6⟩
        · rw [cells_in hb]; rfl
        · rw [cells_in hb]; rfl
      have hr2 := Hr2.out W6 hB6
      have Hr2 := Lib.hid hr2
      clear hW6 hB6 hHeld hr2
      refine hK.out _ _ (.inr hHeld6) ?_
      clear hK K
      try simp only [Act.put, List.setIfInBounds_toArray, List.set_cons_zero, List.set_cons_succ]
      refine takeZ_call (i := 5) rfl (by kernel_rfl) (by kernel_rfl) (fun K hK => ?_)
      go_simp
      refine hK.out _ _ (.inr hHeld6) ?_
      clear hK K
      try simp only [Act.put, List.setIfInBounds_toArray, List.set_cons_zero, List.set_cons_succ]
      refine takeZ_call (i := 6) rfl (by kernel_rfl) (by kernel_rfl) (fun K hK => ?_)
      have hr2 := Hr2.out
      go_simp
      clear hr2
      obtain ⟨W7, hW7⟩ : ∃ W, setBlock W6 B o2 = W := ⟨_, rfl⟩
      have F7 := Lib.hid (show Fr0 (fun j => j = B) WD W7 by rw [← hW7]; exact F6.out.trans ((Fr0.refl (fun j => j = B) W6).setBlock (fun _ => rfl) _))
      have M7 := Lib.hid (Hm2.out W7 (by rw [← hW7]; exact setBlock_same (Array.getElem?_eq_getElem (Nat.lt_of_lt_of_le HM5.out.lt F6.out.size))))
      rw [hW7]
      clear hW7
      refine hK.out _ _ (.inl rfl) ?_
      clear hK K hHeld6
      try simp only [Act.put, List.setIfInBounds_toArray, List.set_cons_zero, List.set_cons_succ]
      refine wpAnyZ_done (by kernel_rfl) ?_ _
      have hbE7 := Lib.hid ((F7.out.block q (Array.getElem?_eq_some_iff.1 hbE.out).1 (fun e => by have := HqB.out; omega)).trans hbE.out)
      have hbN7 := Lib.hid ((F7.out.block (q + 1) (Array.getElem?_eq_some_iff.1 hbN.out).1 (fun e => by have := HqB.out; omega)).trans hbN.out)
      have hlk := (M7.out.look pair_law Tryz.underlying78 (Tryz.zeroValue3 W7) Hkl.out).2
      rw [if_pos rfl, show nameV y.name = .agg #[.int .i64 y.key.source, .int .i64 y.key.seq] from rfl] at hlk
      simp only [Option.getD_some] at hlk
      have n0 := cells_in hbN7.out 0
      have n1 := cells_in hbN7.out 1
      simp at n0 n1
      have Fw7 := Lib.hid (hfr.out.trans' (F4.out.trans F5.out |>.mono (fun _ _ h => h.elim) |>.trans F7.out) (fun i hi e => by have := HB.out; omega))
      have hrow7 := Lib.hid (ownsRow_fr0 (ownsRow_fr0 hrow4.out F5.out (fun _ _ h => h)) F7.out (fun g hg e => by have := (hrow4.out.lt g hg).1; omega))
      have htk : (xs.take (k + 1)).map madeE = (xs.take k).map madeE ++ [y] := by
        rw [List.take_add_one, Hx.out, ← Hy.out]
        simp
      have hded := dedE_snoc ((xs.take k).map madeE) y
      rw [← htk, dedE_any, cntN_any, Hcn.out] at hded
      have hcnt : ∀ nm, cntN ((xs.take (k + 1)).map madeE) nm = cntN ((xs.take k).map madeE) nm + if nm = y.name then 1 else 0 := fun nm => by rw [htk]; exact cntN_snoc _ _ _
      have hM7 := Lib.hid (show MetIs Tryz.prog 82 W7 B (k + 1) (fun nm => if cntN ((xs.take (k + 1)).map madeE) nm = 0 then none else some (cntN ((xs.take (k + 1)).map madeE) nm : Nat)) by
        have h1 := M7.out
        refine cast ?_ h1
        congr 1
        funext nm
        rw [hcnt nm]
        by_cases e : nm = y.name
        · subst e
          rw [if_pos rfl, if_pos rfl, Hcn.out, if_neg (by omega)]
          simp
        · rw [if_neg e, if_neg e, Nat.add_zero])
      clear hcnt M7
      have Hded := Lib.hid hded
      clear hded htk
      obtain ⟨cv, hcv⟩ : ∃ cv, (cn : Int) + 1 = cv := ⟨_, rfl⟩
      rw [hcv] at hlk
      try rw [hcv]
      by_cases hc0 : cn = 0
      · have d1 : (cv == 1) = true := by rw [← hcv, hc0]; rfl
        have Hc0 := Lib.hid hc0
        obtain ⟨va, vc, rfl, _, _⟩ := EsIn.of_own hrow7.out
        obtain ⟨kk, hkk⟩ : ∃ kk, (dedE ((xs.take k).map madeE)).length = kk := ⟨_, rfl⟩
        have Hkk := Lib.hid hkk
        have hkl : kk ≤ 100 := by
          rw [← hkk]
          have h1 := dedE_le ((xs.take k).map madeE)
          rw [List.length_map, List.length_take] at h1
          omega
        rw [hkk] at hrow7 ⊢
        have x0 := cells_in hbE7.out 0
        have x1 := cells_in hbE7.out 1
        have x2 := cells_in hbE7.out 2
        have x3 := cells_in hbE7.out 3
        have x4 := cells_in hbE7.out 4
        simp at x0 x1 x2 x3 x4
        have hsrc := Src.newRow (P := Tryz.prog) (size := 5) (tx := 30) (ty := 28) W7 Tryz.underlying30 1 1 (cev y) rfl (by simp [Value.oneCell', cev])
        simp only [cev] at hsrc
        have hbase : B + 1 ≤ W7.heap.size := hM7.out.lt
        clear hc0 hkk hcv
        go_wp2_with (at_builtin; refine wpList_append_k rfl _ _ 30 30 rfl (B + 1) 28 i0 (.agg #[.int .i64 0, .int .i64 0, .int .i64 0, .int .i64 0, .int .i64 0]) 5 40 Tryz.underlying30 hi hz0 hz1 hz2 rfl (by decide) (.slice va kk vc) kk _ rfl (ownsRow_fr0 hrow7.out ((Fr0.refl none' W7).alloc _) (fun _ _ h => h)) (.slice (some ⟨W7.heap.size, 0, none⟩) 1 1) 1 _ rfl hsrc (by unfold maxLen; omega) (by omega) (by simp; omega) ?_; intro v8 w8 hown hgrow hdr hob; have Hown := Lib.hid hown; have hfg : Fr0 (fun i => (Value.slice va kk vc).ownBlock = some i) W7 w8 := ((Fr0.refl _ W7).alloc _).grown hgrow (fun i hi _ => hi); have F8 := Lib.hid hfg; clear hown hgrow hdr hob x0 x1 x2 x3 x4 hfg hsrc hlk n0 n1)
        go_roundw
        case rel =>
          refine ⟨k + 1, by omega, by go_num, ?_, ?_, ?_⟩
          · have h1 := Hown.out
            have h2 := Hded.out
            rw [if_neg (by simp [Hc0.out])] at h2
            rw [h2, List.length_append, flatEv_append, flatEv_single]
            rw [← Hkk.out] at h1
            exact h1
          · exact hM7.out.fr0 F8.out (fun hs => by have := (hrow7.out.lt B hs).1; omega)
          · exact Fw7.out.trans' F8.out (fun i hi hs => by have := (hrow7.out.lt i hs).1; have := HB.out; omega)
        case measure => simp [Go.RowKit.intOf]; omega
      · have d1 : (cv == 1) = false := by simp; omega
        have Hc0 := Lib.hid hc0
        clear hc0 hcv
        go_wp2_with fail
        clear hlk n0 n1
        go_roundw
        case rel =>
          refine ⟨k + 1, by omega, by go_num, ?_, hM7.out, Fw7.out⟩
          have h2 := Hded.out
          rw [if_pos (by simpa using Hc0.out)] at h2
          rw [h2]
          exact hrow7.out
        case measure => simp [Go.RowKit.intOf]; omega
    · have hkm : k = m := by omega
      subst hkm
      go_wp2
      go_ret
      refine ⟨_, rfl, ?_, hfr.out⟩
      rw [Hev.out, HB.out]
      exact own_up hrow.out (Nat.le_succ _)
end Go.Proofs.YtmcgipilopfgoaaGreat

/-
  A slice of small numbers among the arguments; the row's post, the arguments read from below.
-/
namespace Go.Proofs.YtmcgipilopfgoaaGreat
open Go.ChangeShapes Go.WideShapes Go.ChangeAt Go.RowKit Go.Deep Go.Joins

theorem post_below2 {H : Type} {enc : TypeId × Value → H} {P : Program} {f : Func} {s : ChangeSpec} {apart fresh handsOn : Bool} {W W' : World} {args : Array Value} {v : Value} {ds gs : List (DataW H)} {before pa pv : List MemPlace}
    (hW : DataW.Whole enc P f.params.toList s.vars apart W args.toList ds gs before)
    (hres : ∀ (b : Nat) (sp : Nat → Bool) (hd : Bool), DataW.TrodAll enc P W' b sp hd f.resultTypes.toList (v.resultList f.resultTypes.size) (s.fn H (ds ++ gs)).results [])
    (hargs : DataW.TrodAll enc P W' 0 (fun b => decide (b < W.heap.size)) true f.params.toList args.toList (s.fn H (ds ++ gs)).args pa)
    (hvars : ∀ sp : Nat → Bool, (∀ p ∈ before, sp p.block = true) → DataW.TrodVars enc P W' sp s.vars (s.fn H (ds ++ gs)).vars pv)
    (hb : Below W.heap.size W W') :
    s.post enc P f apart fresh handsOn false W args v W' := by
  have hold : ∀ p ∈ before, (fun b => decide (b < W.heap.size)) p.block = true := fun p hp => by simpa using hW.lt p hp
  exact ⟨ds, gs, before, [], pa, pv, hW, hres _ _ _, hargs, hvars _ hold, hb.frame _, fun h => by cases h⟩
theorem laid_own : laidOutB Tryz.prog = true := by kernel_rfl
theorem own_knob : ownKnob Tryz.prog.godebug = none := by kernel_rfl

theorem list_of {α : Type} {P : Nat → α → Prop} : ∀ n, (∀ i, i < n → ∃ x, P i x) → ∃ xs : List α, xs.length = n ∧ ∀ j x, xs[j]? = some x → P j x
  | 0, _ => ⟨[], rfl, fun j x h => by simp at h⟩
  | n + 1, h => by
    obtain ⟨xs, hl, hx⟩ := list_of n (fun i hi => h i (by omega))
    obtain ⟨x, hp⟩ := h n (by omega)
    refine ⟨xs ++ [x], by simp [hl], fun j y hj => ?_⟩
    rcases Nat.lt_or_ge j xs.length with hjl | hjl
    · rw [List.getElem?_append_left hjl] at hj; exact hx j y hj
    · rw [List.getElem?_append_right hjl] at hj
      have : j - xs.length = 0 := by
        rcases Nat.eq_zero_or_pos (j - xs.length) with h0 | h0
        · exact h0
        · rw [List.getElem?_eq_none (by simp; omega)] at hj; cases hj
      rw [this] at hj
      simp at hj
      subst hj
      rw [show j = n by omega]; exact hp
theorem small_fields {H : Type} {enc : TypeId × Value → H} {w : World} {n : Nat} {v : Value} {y : DataW H × List MemPlace} (h : DataW.trod enc Tryz.prog w 0 (fun _ => true) true n 5 [v] = some y) : ∃ a, v = .int .u8 a ∧ 0 ≤ a ∧ a < 256 := by
  obtain ⟨a, h1, _, hw⟩ := DataW.trod_int Tryz.underlying5 h
  injection h1 with h1 _
  have := bounds_u8 hw
  exact ⟨a, h1, this.1, by omega⟩

set_option maxRecDepth 100000 in
/-- A slice of small numbers, opened. -/
theorem smalls_arg {base : Nat} {H : Type} {enc : TypeId × Value → H} {W : World} {v : Value} {d : DataW H} {ps : List MemPlace}
    (hval : Value.okWide Tryz.prog W .any base 34 v) (h : DataW.Trod enc Tryz.prog W 0 (fun _ => true) true 34 v d ps) : ∃ xs, SmesAt W v xs := by
  obtain ⟨A, n, cap, rfl⟩ := okWide_slice Tryz.underlying34 hval
  obtain ⟨fuel, hf⟩ := h
  rcases open_slice Tryz.underlying34 hf with ⟨hcs, _⟩ | ⟨a, len, cap', m, _, D, Pl, hcs, _, hl, hm, hz, _, hi⟩
  · simp [Value.cells] at hcs
    obtain ⟨rfl, rfl, rfl⟩ := hcs
    exact ⟨[], none, 0, rfl, Nat.le_refl _, fun j x hj => by simp at hj⟩
  · simp [Value.cells] at hcs
    obtain ⟨rfl, rfl, rfl⟩ := hcs
    have hmn : n ≤ m := by rw [hz]; split <;> omega
    have key : ∀ i, i < n → ∃ x : Sme, x.ok ∧ ∃ g o, a = ⟨g, o, none⟩ ∧ W.cell? ⟨g, o + i * 4, none⟩ = some (.int .u8 x.t) ∧ W.cell? ⟨g, o + i * 4 + 1, none⟩ = some (.int .u8 x.s) ∧ W.cell? ⟨g, o + i * 4 + 2, none⟩ = some (.int .u8 x.q) ∧ W.cell? ⟨g, o + i * 4 + 3, none⟩ = some (.int .u8 x.o) := fun i hin => by
      obtain ⟨cs, hc, ht⟩ := hi i (by omega)
      rw [show Tryz.prog.cellsOf 80 = 4 by kernel_rfl] at hc
      obtain ⟨ys, k, _, _, _, hyl, hfl⟩ := DataW.trod_struct Tryz.underlying80 ht
      obtain ⟨_, hcl, hat⟩ := World.cells?_some hc
      have hone : Tryz.prog.cellsOf 5 = 1 := by kernel_rfl
      match cs, hcl with
      | [v0, v1, v2, v3], _ =>
      have c0 := hat 0 (by omega)
      have c1 := hat 1 (by omega)
      have c2 := hat 2 (by omega)
      have c3 := hat 3 (by omega)
      have f0 : DataW.trod enc Tryz.prog W 0 (fun _ => true) true k 5 (([v0, v1, v2, v3].drop 0).take (Tryz.prog.cellsOf 5)) = ys[0]? := hfl 0 _ rfl
      have f1 : DataW.trod enc Tryz.prog W 0 (fun _ => true) true k 5 (([v0, v1, v2, v3].drop 1).take (Tryz.prog.cellsOf 5)) = ys[1]? := hfl 1 _ rfl
      have f2 : DataW.trod enc Tryz.prog W 0 (fun _ => true) true k 5 (([v0, v1, v2, v3].drop 2).take (Tryz.prog.cellsOf 5)) = ys[2]? := hfl 2 _ rfl
      have f3 : DataW.trod enc Tryz.prog W 0 (fun _ => true) true k 5 (([v0, v1, v2, v3].drop 3).take (Tryz.prog.cellsOf 5)) = ys[3]? := hfl 3 _ rfl
      rw [hone] at f0 f1 f2 f3
      have yl : ys.length = 4 := hyl
      have t0 : DataW.trod enc Tryz.prog W 0 (fun _ => true) true k 5 [v0] = some (ys[0]'(by omega)) := f0.trans (List.getElem?_eq_getElem _)
      have t1 : DataW.trod enc Tryz.prog W 0 (fun _ => true) true k 5 [v1] = some (ys[1]'(by omega)) := f1.trans (List.getElem?_eq_getElem _)
      have t2 : DataW.trod enc Tryz.prog W 0 (fun _ => true) true k 5 [v2] = some (ys[2]'(by omega)) := f2.trans (List.getElem?_eq_getElem _)
      have t3 : DataW.trod enc Tryz.prog W 0 (fun _ => true) true k 5 [v3] = some (ys[3]'(by omega)) := f3.trans (List.getElem?_eq_getElem _)
      obtain ⟨a0, rfl, l0, m0⟩ := small_fields t0
      obtain ⟨a1, rfl, l1, m1⟩ := small_fields t1
      obtain ⟨a2, rfl, l2, m2⟩ := small_fields t2
      obtain ⟨a3, rfl, l3, m3⟩ := small_fields t3
      obtain ⟨cs', hc', _⟩ := hi 0 (by omega)
      rw [show Tryz.prog.cellsOf 80 = 4 by kernel_rfl] at hc'
      obtain ⟨_, hcl', hat'⟩ := World.cells?_some hc'
      have z0 := hat' 0 (by omega)
      rw [List.getElem?_eq_getElem (by omega)] at z0
      obtain ⟨b, off, spot⟩ := a
      have hspot : spot = none := by simpa [Addr.add] using World.cell?_spot z0
      subst hspot
      rw [Addr.add_mid, Addr.add_mid] at c0 c1 c2 c3
      refine ⟨⟨a0, a1, a2, a3⟩, ⟨⟨l0, m0⟩, ⟨l1, m1⟩, ⟨l2, m2⟩, ⟨l3, m3⟩⟩, b, off, rfl, ?_, ?_, ?_, ?_⟩
      · exact c0
      · exact c1
      · exact c2
      · exact c3
    obtain ⟨xs, hxl, hx⟩ := list_of n key
    subst hxl
    refine ⟨xs, some a, cap, rfl, by simpa using hl, fun j x hj => ?_⟩
    obtain ⟨hok, g, o, rfl, q0, q1, q2, q3⟩ := hx j x hj
    exact ⟨hok, g, o, rfl, q0, q1, q2, q3⟩

set_option maxRecDepth 100000 in
/-- Small numbers by value, opened. -/
theorem small_arg {base : Nat} {H : Type} {enc : TypeId × Value → H} {W : World} {v : Value} {d : DataW H} {ps : List MemPlace}
    (hval : Value.okWide Tryz.prog W .any base 80 v) (h : DataW.Trod enc Tryz.prog W 0 (fun _ => true) true 80 v d ps) : ∃ x : Sme, x.ok ∧ v = smeV x := by
  obtain ⟨v0, v1, v2, v3, y0, y1, y2, y3, n, rfl, _, _, t0, t1, t2, t3⟩ := open_agg4 Tryz.underlying80 (by kernel_rfl) (by kernel_rfl) hval h
  obtain ⟨a0, rfl, l0, m0⟩ := small_fields t0
  obtain ⟨a1, rfl, l1, m1⟩ := small_fields t1
  obtain ⟨a2, rfl, l2, m2⟩ := small_fields t2
  obtain ⟨a3, rfl, l3, m3⟩ := small_fields t3
  exact ⟨⟨a0, a1, a2, a3⟩, ⟨⟨l0, m0⟩, ⟨l1, m1⟩, ⟨l2, m2⟩, ⟨l3, m3⟩⟩, rfl⟩
end Go.Proofs.YtmcgipilopfgoaaGreat

/-
  The reference of layer 10: Less, Right, at, with.
-/
namespace Go.Proofs.YtmcgipilopfgoaaGreat
open Go Go.RowKit
attribute [local go_sem ↓] Go.wp_at_zero Go.wp_at_succ
attribute [local go_sem] Oper.semAt_some wide_fn wide_depth wide_fnR wide_depthR

set_option maxRecDepth 100000 in
set_option maxHeartbeats 2000000 in
theorem rRightK_any (k : Key3) (w : World) : Calls Tryz.prog 77 #[keyV k] w fun e w' => e = .returned (.bool (decide (RightK k))) ∧ Fr0 none' w w' := by
  simp only [keyV]
  go_enter Tryz.func77, Tryz.ntmps77
  go_wp2_with fail
  all_goals
    go_ret
    refine ⟨congrArg (fun b => Ending.returned (Value.bool b)) ?_, ((Fr0.refl _ _).alloc _)⟩
    first
      | exact (decide_eq_false (by unfold RightK; omega)).symm
      | exact decide_eq_decide.2 (by unfold RightK; omega)
set_option maxRecDepth 100000 in
set_option maxHeartbeats 2000000 in
theorem rLessK_any (a b : Key3) (w : World) : Calls Tryz.prog 74 #[keyV a, keyV b] w fun e w' => e = .returned (.bool (decide (cmpK a b < 0))) ∧ Fr0 none' w w' := by
  simp only [keyV]
  go_enter Tryz.func74, Tryz.ntmps74
  go_wp2_with fail
  all_goals
    go_ret
    refine ⟨congrArg (fun b => Ending.returned (Value.bool b)) (decide_eq_decide.2 ?_), (((Fr0.refl _ _).alloc _).alloc _)⟩
    rw [cmpK_lt]
    try simp only [bne_iff_ne, ne_eq, bne_eq_false_iff_eq, Bool.not_eq_true] at *
    omega
set_option maxRecDepth 100000 in
set_option maxHeartbeats 2000000 in
theorem rRightE_any (x : Ev) (w : World) : Calls Tryz.prog 57 #[evV x] w fun e w' => e = .returned (.bool (decide (RightE x))) ∧ Fr0 none' w w' := by
  have HR := Lib.hid (rRightK_any x.key)
  simp only [keyV] at HR
  unfold evV
  go_enter Tryz.func57, Tryz.ntmps57
  go_wp2_with fail
  obtain ⟨B, hB⟩ : ∃ B, w.heap.size = B := ⟨_, rfl⟩
  obtain ⟨W, hW⟩ : ∃ W, w.alloc (.cells #[.int .i64 x.key.time, .int .i64 x.key.source, .int .i64 x.key.seq, .int .i64 x.to, .int .i64 x.value] 28) = W := ⟨_, rfl⟩
  have F1 := Lib.hid (show Fr0 none' w W by rw [← hW]; exact (Fr0.refl _ _).alloc _)
  have hb : W.heap[B]? = some (.cells (cev x).toArray 28 (0, 0)) := by rw [← hW, ← hB]; exact World.alloc_heap_new w _
  rw [hW]
  try rw [hB]
  clear hW hB
  refine (HR.out _).mono ?_
  rintro e w2 ⟨rfl, hf⟩
  have hb2 := (hf.block B (Array.getElem?_eq_some_iff.1 hb).1 id).trans hb
  have F2 := Lib.hid (F1.out.trans hf)
  clear hf hb F1
  have a0 := cells_in hb2 0
  have a1 := cells_in hb2 1
  have a2 := cells_in hb2 2
  have a3 := cells_in hb2 3
  have a4 := cells_in hb2 4
  simp [cev] at a0 a1 a2 a3 a4
  clear hb2
  by_cases h1 : RightK x.key
  · rw [decide_eq_true h1]
    go_wp2_with fail
    all_goals
      go_ret
      refine ⟨congrArg (fun b => Ending.returned (Value.bool b)) ?_, F2.out⟩
      first
        | exact (decide_eq_false (fun h => by have := h.2; omega)).symm
        | exact decide_eq_decide.2 ⟨fun h => ⟨h1, by omega, by omega⟩, fun h => by have := h.2; omega⟩
  · rw [decide_eq_false h1]
    go_wp2_with fail
    go_ret
    exact ⟨congrArg (fun b => Ending.returned (Value.bool b)) (decide_eq_false (fun h => h1 h.1)).symm, F2.out⟩

/-- The index of the event with a name; -1 if there is none. -/
def atE (p : Int × Int) (E : List Ev) : Int := idxI (fun x => x.name == p) E
set_option maxRecDepth 100000 in
set_option maxHeartbeats 2000000 in
theorem rat_any {w : World} {a : Option Addr} {n cap : Nat} (E : List Ev) (h : EsIn w a E) (hl : E.length = n) (hn : n ≤ 1000000) (s q : Int) :
    Calls Tryz.prog 73 #[.slice a n cap, .int .i64 s, .int .i64 q] w fun e w' => e = .returned (.int .i64 (atE (s, q) E)) ∧ w = w' := by
  obtain ⟨R, hR⟩ : ∃ R, atE (s, q) E = R := ⟨_, rfl⟩
  rw [hR]
  have HR := Lib.hid hR
  have H := Lib.hid h
  have Hl := Lib.hid hl
  clear h hl hR
  go_enter Tryz.func73, Tryz.ntmps73
  go_wp2_with fail
  go_loopw [7] (fun i wr => ∃ k : Nat, k ≤ n ∧ i = .int .i64 k ∧ Hid (∀ y ∈ E.take k, (y.name == (s, q)) = false) ∧ wr = w) (fun i _ => n - (Go.RowKit.intOf i).toNat)
  case atStart => exact ⟨0, Nat.zero_le _, rfl, by unfold Hid; simp, rfl⟩
  case round =>
    obtain ⟨k, hk, rfl, hpre, rfl⟩ := hrel
    by_cases hlt : k < n
    · obtain ⟨x, hx⟩ : ∃ x, E[k]? = some x := ⟨_, List.getElem?_eq_getElem (by rw [Hl.out]; exact hlt)⟩
      obtain ⟨g2, o, rfl, hxc⟩ := H.out k x hx
      obtain ⟨x0, x1, x2, x3, x4⟩ := hxc
      have Hx := Lib.hid hx
      have k1 : (0 : Int) ≤ (k : Int) := by omega
      have k2 : (k : Int) < (n : Int) := by omega
      have hno : Hid ((x.name == (s, q)) = false → ∀ y ∈ E.take (k + 1), (y.name == (s, q)) = false) := fun hfx y hy => by
        rw [List.take_add_one, Hx.out, List.mem_append] at hy
        rcases hy with hy | hy
        · exact hpre.out y hy
        · simp at hy; subst hy; exact hfx
      have hyes : Hid ((x.name == (s, q)) = true → (k : Int) = R) := fun hfx => by
        rw [← HR.out]; exact (idxI_at hpre.out Hx.out hfx).symm
      clear hx
      by_cases h1 : x.key.source = s
      · have e1 : (x.key.source == s) = true := by simpa using h1
        by_cases h2 : x.key.seq = q
        · have e2 : (x.key.seq == q) = true := by simpa using h2
          have hres := Lib.hid (hyes.out (by simp [Ev.name, h1, h2]))
          clear h1 h2
          go_wp2_with fail
          go_ret
          exact ⟨congrArg (fun b => Ending.returned (Value.int .i64 b)) hres.out, rfl⟩
        · have e2 : (x.key.seq == q) = false := by simpa using h2
          have hres := Lib.hid (hno.out (by simp [Ev.name, h1, h2]))
          clear h1 h2
          go_wp2_with fail
          go_roundw
          case rel => exact ⟨k + 1, by omega, by go_num, hres, trivial⟩
          case measure => simp [Go.RowKit.intOf]; omega
      · have e1 : (x.key.source == s) = false := by simpa using h1
        have hres := Lib.hid (hno.out (by simp [Ev.name, h1]))
        clear h1
        go_wp2_with fail
        go_roundw
        case rel => exact ⟨k + 1, by omega, by go_num, hres, trivial⟩
        case measure => simp [Go.RowKit.intOf]; omega
    · have hres := Lib.hid (show (-1 : Int) = R by
        rw [← HR.out]
        have := hpre.out
        rw [List.take_of_length_le (by rw [Hl.out]; omega)] at this
        exact (idxI_none this).symm)
      go_wp2
      go_ret
      exact ⟨congrArg (fun b => Ending.returned (Value.int .i64 b)) hres.out, rfl⟩

theorem own_low {w : World} {base base' : Nat} {e : TypeId} {size : Nat} {v : Value} {n : Nat} {xs : List Value} (h : w.ownsRow base e size v n xs) (hb : base' ≤ base) : w.ownsRow base' e size v n xs := by
  obtain ⟨h1, h2⟩ := h
  refine ⟨h1, ?_⟩
  rcases h2 with h2 | ⟨g, cap, cur, hv, hg, r⟩
  · exact Or.inl h2
  · exact Or.inr ⟨g, cap, cur, hv, Nat.le_trans hb hg, r⟩
/-- One round of putting an event among others. -/
def wStep (x : Ev) (s : Bool × List Ev) (y : Ev) : Bool × List Ev := if s.1 = false ∧ cmpK x.key y.key < 0 then (true, s.2 ++ [x] ++ [y]) else (s.1, s.2 ++ [y])
def wRun (x : Ev) (E : List Ev) : Bool × List Ev := E.foldl (wStep x) (false, [])
def withE (x : Ev) (E : List Ev) : List Ev := if (wRun x E).1 then (wRun x E).2 else (wRun x E).2 ++ [x]
theorem wRun_snoc {x y : Ev} {E : List Ev} {k : Nat} (h : E[k]? = some y) : wRun x (E.take (k + 1)) = wStep x (wRun x (E.take k)) y := by
  unfold wRun
  rw [List.take_add_one, h, List.foldl_append]
  rfl
theorem wRun_there (x : Ev) : ∀ (E out : List Ev), E.foldl (wStep x) (true, out) = (true, out ++ E)
  | [], out => by simp
  | y :: r, out => by
    rw [List.foldl_cons]
    have : wStep x (true, out) y = (true, out ++ [y]) := by unfold wStep; simp
    rw [this, wRun_there x r, List.append_assoc]
    rfl
theorem wRun_ins (x : Ev) : ∀ (E out : List Ev), (∀ y ∈ E, y.key ≠ x.key) → (if (E.foldl (wStep x) (false, out)).1 then (E.foldl (wStep x) (false, out)).2 else (E.foldl (wStep x) (false, out)).2 ++ [x]) = out ++ insE x E
  | [], out, _ => by simp [insE]
  | y :: r, out, h => by
    have hne := h y (List.mem_cons_self ..)
    have hanti := cmpK_anti x.key y.key
    have hz : cmpK y.key x.key ≠ 0 := fun e => hne ((cmpK_eq ..).1 e)
    rw [List.foldl_cons, insE]
    by_cases hlt : cmpK y.key x.key < 0
    · have : wStep x (false, out) y = (false, out ++ [y]) := by unfold wStep; rw [if_neg]; simp; omega
      rw [this, if_pos hlt, wRun_ins x r _ (fun z hz => h z (List.mem_cons_of_mem _ hz))]
      simp
    · have : wStep x (false, out) y = (true, out ++ [x] ++ [y]) := by unfold wStep; rw [if_pos]; simp; omega
      rw [this, if_neg hlt, wRun_there]
      simp
theorem withE_ins {x : Ev} {E : List Ev} (h : ∀ y ∈ E, y.name ≠ x.name) : withE x E = insE x E := by
  have := wRun_ins x E [] (fun y hy e => h y hy (name_key e))
  unfold withE wRun
  rw [this]
  rfl
theorem wStep_len (x : Ev) (s : Bool × List Ev) (y : Ev) : (wStep x s y).2.length ≤ s.2.length + 2 := by
  unfold wStep
  split <;> simp
theorem wRun_len (x : Ev) (E : List Ev) : (wRun x E).2.length ≤ E.length * 2 := by
  have : ∀ (E : List Ev) (s : Bool × List Ev), (E.foldl (wStep x) s).2.length ≤ s.2.length + E.length * 2 := by
    intro E
    induction E with
    | nil => intro s; simp
    | cons y r ih =>
      intro s
      have h1 := ih (wStep x s y)
      have h2 := wStep_len x s y
      rw [List.foldl_cons, List.length_cons]
      omega
  have := this E (false, [])
  unfold wRun
  simpa using this
set_option maxRecDepth 100000 in
set_option maxHeartbeats 2000000 in
theorem rwith_any {w : World} {a : Option Addr} {n cap : Nat} (E : List Ev) (h : EsIn w a E) (hl : E.length = n) (hn : n ≤ 1000) (x : Ev) :
    Calls Tryz.prog 75 #[.slice a n cap, evV x] w fun e w' => ∃ v, e = .returned v ∧ w'.ownsRow w.heap.size 28 5 v (withE x E).length (flatEv (withE x E)) ∧ Fr0 none' w w' := by
  obtain ⟨i0, hi, hz0, hz1, hz2⟩ := info_parts info_event0
  have H := Lib.hid h
  have Hl := Lib.hid hl
  clear h hl
  unfold evV
  go_enter Tryz.func75, Tryz.ntmps75
  go_wp2_with fail
  obtain ⟨B, hB⟩ : ∃ B, w.heap.size = B := ⟨_, rfl⟩
  obtain ⟨W, hW⟩ : ∃ W, w.alloc (.cells #[.int .i64 x.key.time, .int .i64 x.key.source, .int .i64 x.key.seq, .int .i64 x.to, .int .i64 x.value] 28) = W := ⟨_, rfl⟩
  have F1 := Lib.hid (show Fr0 none' w W by rw [← hW]; exact (Fr0.refl _ _).alloc _)
  have HB := Lib.hid (show W.heap[B]? = some (.cells (cev x).toArray 28 (0, 0)) by rw [← hW, ← hB]; exact World.alloc_heap_new w _)
  have Hb := Lib.hid hB
  rw [hW]
  try rw [hB]
  clear hW hB
  go_loopw [5, 6, 7] (fun v5 v6 i wr => ∃ (k : Nat) (b : Bool) (out : List Ev), k ≤ n ∧ i = .int .i64 k ∧ v6 = .bool b ∧ Hid (wRun x (E.take k) = (b, out)) ∧ Hid (wr.ownsRow (w.heap.size + 1) 28 5 v5 out.length (flatEv out)) ∧ Hid (wr.heap[B]? = some (.cells (cev x).toArray 28 (0, 0))) ∧ Hid (Fr0 none' w wr)) (fun _ _ i _ => n - (Go.RowKit.intOf i).toNat)
  case atStart => exact ⟨0, false, [], Nat.zero_le _, rfl, rfl, rfl, World.ownsRow_nil _ _ _ _, HB, F1⟩
  case round =>
    obtain ⟨k, b, out, hk, rfl, rfl, hrun, hrow, hbx, hfr⟩ := hrel
    have hol : out.length ≤ 2000 := by
      have h1 := wRun_len x (E.take k)
      rw [hrun.out, List.length_take] at h1
      simp only at h1
      omega
    obtain ⟨va, vc, rfl, _, _⟩ := EsIn.of_own hrow.out
    have a0 := cells_in hbx.out 0
    have a1 := cells_in hbx.out 1
    have a2 := cells_in hbx.out 2
    have a3 := cells_in hbx.out 3
    have a4 := cells_in hbx.out 4
    simp [cev] at a0 a1 a2 a3 a4
    by_cases hlt : k < n
    · obtain ⟨y, hy⟩ : ∃ y, E[k]? = some y := ⟨_, List.getElem?_eq_getElem (by rw [Hl.out]; exact hlt)⟩
      obtain ⟨g2, o, rfl, hxc⟩ := H.out k y hy
      obtain ⟨x0, x1, x2, x3, x4⟩ := hxc.later hfr.out
      have k1 : (0 : Int) ≤ (k : Int) := by omega
      have k2 : (k : Int) < (n : Int) := by omega
      have hsn := wRun_snoc (x := x) hy
      rw [hrun.out] at hsn
      have HL := Lib.hid (rLessK_any x.key y.key)
      simp only [keyV] at HL
      obtain ⟨c, hc⟩ : ∃ c, decide (cmpK x.key y.key < 0) = c := ⟨_, rfl⟩
      rw [hc] at HL
      have Hsn := Lib.hid hsn
      have Hc := Lib.hid hc
      clear hy hsn hc
      have HY := Lib.hid hxc
      have HX := Lib.hid (fun (W' : World) (hf : Fr0 none' wr W') => (hf.block B (Array.getElem?_eq_some_iff.1 hbx.out).1 id).trans hbx.out)
      clear a0 a1 a2 a3 a4 x0 x1 x2 x3 x4 hxc
      cases b with
      | true =>
        have hst := Hsn.out
        rw [show wStep x (true, out) y = (true, out ++ [y]) by unfold wStep; simp] at hst
        have Hst := Lib.hid hst
        clear hst
        go_wp2_with fail
        refine wp_region_held_drew (S := fun W' => Fr0 none' wr W') (by kernel_rfl) ((Fr0.refl none' wr).drew) (fun hHeld => ?_)
        refine take_on (i := 0) (v := .bool true) rfl (by kernel_rfl) (by kernel_rfl) (by kernel_rfl) (fun _ _ _ h => h) (by kernel_rfl) (fun W' hSW => ?_) (by assumption) ?_
        · first | (go_simp; done) | exact rfl | (go_simp; rfl) | (go_simp; omega)
        try simp only [Act.put, List.setIfInBounds_toArray, List.set_cons_zero, List.set_cons_succ]
        refine take_on (i := 1) (v := .bool false) rfl (by kernel_rfl) (by kernel_rfl) (by kernel_rfl) (fun _ _ _ h => h) (by kernel_rfl) (fun W' hSW => ?_) (by assumption) ?_
        · first | (go_simp; done) | exact rfl | (go_simp; rfl) | (go_simp; omega)
        try simp only [Act.put, List.setIfInBounds_toArray, List.set_cons_zero, List.set_cons_succ]
        refine take_on (i := 2) (v := .bool false) rfl (by kernel_rfl) (by kernel_rfl) (by kernel_rfl) (fun _ _ _ h => h) (by kernel_rfl) (fun W' hSW => ?_) (by assumption) ?_
        · first | (go_simp; done) | exact rfl | (go_simp; rfl) | (go_simp; omega)
        try simp only [Act.put, List.setIfInBounds_toArray, List.set_cons_zero, List.set_cons_succ]
        refine take_off (i := 3) rfl (by kernel_rfl) (by kernel_rfl) (by kernel_rfl) (fun _ _ _ h => h) (by kernel_rfl) (by assumption) ?_
        try simp only [Act.put, List.setIfInBounds_toArray, List.set_cons_zero, List.set_cons_succ]
        refine take_off (i := 4) rfl (by kernel_rfl) (by kernel_rfl) (by kernel_rfl) (fun _ _ _ h => h) (by kernel_rfl) (by assumption) ?_
        try simp only [Act.put, List.setIfInBounds_toArray, List.set_cons_zero, List.set_cons_succ]
        refine take_off (i := 5) rfl (by kernel_rfl) (by kernel_rfl) (by kernel_rfl) (fun _ _ _ h => h) (by kernel_rfl) (by assumption) ?_
        try simp only [Act.put, List.setIfInBounds_toArray, List.set_cons_zero, List.set_cons_succ]
        refine take_off (i := 6) rfl (by kernel_rfl) (by kernel_rfl) (by kernel_rfl) (fun _ _ _ h => h) (by kernel_rfl) (by assumption) ?_
        try simp only [Act.put, List.setIfInBounds_toArray, List.set_cons_zero, List.set_cons_succ]
        refine take_off (i := 7) rfl (by kernel_rfl) (by kernel_rfl) (by kernel_rfl) (fun _ _ _ h => h) (by kernel_rfl) (by assumption) ?_
        try simp only [Act.put, List.setIfInBounds_toArray, List.set_cons_zero, List.set_cons_succ]
        refine take_off (i := 8) rfl (by kernel_rfl) (by kernel_rfl) (by kernel_rfl) (fun _ _ _ h => h) (by kernel_rfl) (by assumption) ?_
        try simp only [Act.put, List.setIfInBounds_toArray, List.set_cons_zero, List.set_cons_succ]
        refine take_off (i := 9) rfl (by kernel_rfl) (by kernel_rfl) (by kernel_rfl) (fun _ _ _ h => h) (by kernel_rfl) (by assumption) ?_
        try simp only [Act.put, List.setIfInBounds_toArray, List.set_cons_zero, List.set_cons_succ]
        refine take_off (i := 10) rfl (by kernel_rfl) (by kernel_rfl) (by kernel_rfl) (fun _ _ _ h => h) (by kernel_rfl) (by assumption) ?_
        try simp only [Act.put, List.setIfInBounds_toArray, List.set_cons_zero, List.set_cons_succ]
        refine take_on (i := 11) (v := .bool false) rfl (by kernel_rfl) (by kernel_rfl) (by kernel_rfl) (fun _ _ _ h => h) (by kernel_rfl) (fun W' hSW => ?_) (by assumption) ?_
        · first | (go_simp; done) | exact rfl | (go_simp; rfl) | (go_simp; omega)
        try simp only [Act.put, List.setIfInBounds_toArray, List.set_cons_zero, List.set_cons_succ]
        refine wpAnyH_done (by kernel_rfl) ?_ _
        have hf2 : Fr0 none' wr wr.drew := (Fr0.refl none' wr).drew
        obtain ⟨w2, hw2⟩ : ∃ w2, wr.drew = w2 := ⟨_, rfl⟩
        rw [hw2] at hf2 ⊢
        clear hw2
        have hrow := Lib.hid (ownsRow_fr0 hrow.out hf2 (fun _ _ h => h))
        have hbx := Lib.hid ((hf2.block B (Array.getElem?_eq_some_iff.1 hbx.out).1 id).trans hbx.out)
        have hfr := Lib.hid (hfr.out.trans hf2)
        clear hf2 HX
        obtain ⟨x0, x1, x2, x3, x4⟩ := HY.out.later hfr.out
        have hsrc := Src.newRow (P := Tryz.prog) (size := 5) (tx := 30) (ty := 28) w2 Tryz.underlying30 1 1 (cev y) rfl (by simp [Value.oneCell', cev])
        simp only [cev] at hsrc
        have hbase : w.heap.size + 1 ≤ (w2).heap.size := by have h1 := (Array.getElem?_eq_some_iff.1 hbx.out).1; have := Hb.out; omega
        go_wp2_with (at_builtin; refine wpList_append_k rfl _ _ 30 30 rfl (w.heap.size + 1) 28 i0 (.agg #[.int .i64 0, .int .i64 0, .int .i64 0, .int .i64 0, .int .i64 0]) 5 40 Tryz.underlying30 hi hz0 hz1 hz2 rfl (by decide) (Value.slice va out.length vc) (out.length) _ rfl (ownsRow_fr0 hrow.out ((Fr0.refl none' w2).alloc _) (fun _ _ h => h)) (.slice (some ⟨(w2).heap.size, 0, none⟩) 1 1) 1 _ rfl hsrc (by unfold maxLen; omega) (by omega) (by simp; omega) ?_; intro v9 w9 hown hgrow hdr hob; obtain ⟨g9, c9, rfl⟩ := ownsRow_k_succ hown; have Lw9 := Lib.hid hrow.out.lt; have Fw9 := Lib.hid (show Fr0 (fun i => (Value.slice va out.length vc).ownBlock = some i) w2 w9 from ((Fr0.refl _ w2).alloc _).grown hgrow (fun i hi _ => hi)); have Rw9 := Lib.hid hown; clear hown hgrow hdr hob hsrc)
        have hrow := Lib.hid (show (w9).ownsRow (w.heap.size + 1) 28 5 (.slice (some ⟨g9, 0, none⟩) (out.length + 1) c9) (out.length + 1) (flatEv (out ++ [y])) by simpa [flatEv, cev] using Rw9.out)
        have hbx := Lib.hid ((Fw9.out.block B (Array.getElem?_eq_some_iff.1 hbx.out).1 (fun h => by have := (Lw9.out B h).1; have := Hb.out; omega)).trans hbx.out)
        have hfr := Lib.hid (hfr.out.trans' Fw9.out (fun i hi h => by have := (Lw9.out i h).1; omega))
        clear x0 x1 x2 x3 x4
        go_roundw
        case rel => exact ⟨k + 1, _, _, by omega, by go_num, rfl, Hst, by simpa using hrow, hbx, hfr⟩
        case measure => simp [Go.RowKit.intOf]; omega
      | false =>
        go_wp2_with fail
        refine wp_region_held_drew (S := fun W' => Fr0 none' wr W') (by kernel_rfl) ((Fr0.refl none' wr).drew) (fun hHeld => ?_)
        refine take_on (i := 0) (v := .bool false) rfl (by kernel_rfl) (by kernel_rfl) (by kernel_rfl) (fun _ _ _ h => h) (by kernel_rfl) (fun W' hSW => ?_) (by assumption) ?_
        · first | (go_simp; done) | exact rfl | (go_simp; rfl) | (go_simp; omega)
        try simp only [Act.put, List.setIfInBounds_toArray, List.set_cons_zero, List.set_cons_succ]
        refine take_on (i := 1) (v := .bool true) rfl (by kernel_rfl) (by kernel_rfl) (by kernel_rfl) (fun _ _ _ h => h) (by kernel_rfl) (fun W' hSW => ?_) (by assumption) ?_
        · first | (go_simp; done) | exact rfl | (go_simp; rfl) | (go_simp; omega)
        try simp only [Act.put, List.setIfInBounds_toArray, List.set_cons_zero, List.set_cons_succ]
        refine take_on (i := 2) (v := .bool true) rfl (by kernel_rfl) (by kernel_rfl) (by kernel_rfl) (fun _ _ _ h => h) (by kernel_rfl) (fun W' hSW => ?_) (by assumption) ?_
        · first | (go_simp; done) | exact rfl | (go_simp; rfl) | (go_simp; omega)
        try simp only [Act.put, List.setIfInBounds_toArray, List.set_cons_zero, List.set_cons_succ]
        refine take_on (i := 3) (v := .pointer (some ⟨B, 0, none⟩)) rfl (by kernel_rfl) (by kernel_rfl) (by kernel_rfl) (fun _ _ _ h => h) (by kernel_rfl) (fun W' hSW => ?_) (by assumption) ?_
        · first | (go_simp; done) | exact rfl | (go_simp; rfl) | (go_simp; omega)
        try simp only [Act.put, List.setIfInBounds_toArray, List.set_cons_zero, List.set_cons_succ]
        refine take_on (i := 4) (v := .agg #[.int .i64 x.key.time, .int .i64 x.key.source, .int .i64 x.key.seq]) rfl (by kernel_rfl) (by kernel_rfl) (by kernel_rfl) (fun _ _ _ h => h) (by kernel_rfl) (fun W' hSW => ?_) (by assumption) ?_
        · have hb := HX.out W' hSW
          have x0 := cells_in hb 0
          have x1 := cells_in hb 1
          have x2 := cells_in hb 2
          have x3 := cells_in hb 3
          have x4 := cells_in hb 4
          simp [cev] at x0 x1 x2 x3 x4
          clear hb
          first | (go_simp; done) | exact rfl | (go_simp; rfl) | (go_simp; omega)
        try simp only [Act.put, List.setIfInBounds_toArray, List.set_cons_zero, List.set_cons_succ]
        refine take_on (i := 5) (v := .slice (some ⟨g2, o, none⟩) n cap) rfl (by kernel_rfl) (by kernel_rfl) (by kernel_rfl) (fun _ _ _ h => h) (by kernel_rfl) (fun W' hSW => ?_) (by assumption) ?_
        · first | (go_simp; done) | exact rfl | (go_simp; rfl) | (go_simp; omega)
        try simp only [Act.put, List.setIfInBounds_toArray, List.set_cons_zero, List.set_cons_succ]
        refine take_on (i := 6) (v := .int .i64 k) rfl (by kernel_rfl) (by kernel_rfl) (by kernel_rfl) (fun _ _ _ h => h) (by kernel_rfl) (fun W' hSW => ?_) (by assumption) ?_
        · first | (go_simp; done) | exact rfl | (go_simp; rfl) | (go_simp; omega)
        try simp only [Act.put, List.setIfInBounds_toArray, List.set_cons_zero, List.set_cons_succ]
        refine take_on (i := 7) (v := .pointer (some ⟨g2, o + k * 5, none⟩)) rfl (by kernel_rfl) (by kernel_rfl) (by kernel_rfl) (fun _ _ _ h => h) (by kernel_rfl) (fun W' hSW => ?_) (by assumption) ?_
        · first | (go_simp; done) | exact rfl | (go_simp; rfl) | (go_simp; omega)
        try simp only [Act.put, List.setIfInBounds_toArray, List.set_cons_zero, List.set_cons_succ]
        refine take_on (i := 8) (v := .pointer (some ⟨g2, o + k * 5, none⟩)) rfl (by kernel_rfl) (by kernel_rfl) (by kernel_rfl) (fun _ _ _ h => h) (by kernel_rfl) (fun W' hSW => ?_) (by assumption) ?_
        · first | (go_simp; done) | exact rfl | (go_simp; rfl) | (go_simp; omega)
        try simp only [Act.put, List.setIfInBounds_toArray, List.set_cons_zero, List.set_cons_succ]
        refine take_on (i := 9) (v := .agg #[.int .i64 y.key.time, .int .i64 y.key.source, .int .i64 y.key.seq]) rfl (by kernel_rfl) (by kernel_rfl) (by kernel_rfl) (fun _ _ _ h => h) (by kernel_rfl) (fun W' hSW => ?_) (by assumption) ?_
        · obtain ⟨b0, b1, b2, b3, b4⟩ := HY.out.later (hfr.out.trans hSW)
          first | (go_simp; done) | exact rfl | (go_simp; rfl) | (go_simp; omega)
        try simp only [Act.put, List.setIfInBounds_toArray, List.set_cons_zero, List.set_cons_succ]
        refine take_call (i := 10) rfl (by kernel_rfl) (by kernel_rfl) (fun K hK => ?_)
        go_simp
        refine (HL.out _).mono ?_
        rintro e w2 ⟨rfl, hf2⟩
        have hf2 : Fr0 none' wr w2 := ((Fr0.refl none' wr).drew).trans hf2
        go_wp2_with fail
        refine hK.out _ _ hf2 (fun hS => ?_)
        clear hK K
        try simp only [Act.put, List.setIfInBounds_toArray, List.set_cons_zero, List.set_cons_succ]
        refine take_on (i := 11) (v := .bool c) rfl (by kernel_rfl) (by kernel_rfl) (by kernel_rfl) (fun _ _ _ h => h) (by kernel_rfl) (fun W' hSW => ?_) (by assumption) ?_
        · first | (go_simp; done) | exact rfl | (go_simp; rfl) | (go_simp; omega)
        try simp only [Act.put, List.setIfInBounds_toArray, List.set_cons_zero, List.set_cons_succ]
        refine wpAnyH_done (by kernel_rfl) ?_ _
        clear hHeld hS
        have hrow := Lib.hid (ownsRow_fr0 hrow.out hf2 (fun _ _ h => h))
        have hbx := Lib.hid ((hf2.block B (Array.getElem?_eq_some_iff.1 hbx.out).1 id).trans hbx.out)
        have hfr := Lib.hid (hfr.out.trans hf2)
        clear hf2 HX
        cases c with
        | true =>
          have hst := Hsn.out
          rw [show wStep x (false, out) y = (true, out ++ [x] ++ [y]) by unfold wStep; rw [if_pos ⟨rfl, of_decide_eq_true Hc.out⟩]] at hst
          have Hst := Lib.hid hst
          clear hst
          have a0 := cells_in hbx.out 0
          have a1 := cells_in hbx.out 1
          have a2 := cells_in hbx.out 2
          have a3 := cells_in hbx.out 3
          have a4 := cells_in hbx.out 4
          simp [cev] at a0 a1 a2 a3 a4
          have hsrc := Src.newRow (P := Tryz.prog) (size := 5) (tx := 30) (ty := 28) w2 Tryz.underlying30 1 1 (cev x) rfl (by simp [Value.oneCell', cev])
          simp only [cev] at hsrc
          have hbase : w.heap.size + 1 ≤ w2.heap.size := by have h1 := (Array.getElem?_eq_some_iff.1 hbx.out).1; have := Hb.out; omega
          go_wp2_with (at_builtin; first | (refine wpList_append_k rfl _ _ 30 30 rfl (w.heap.size + 1) 28 i0 (.agg #[.int .i64 0, .int .i64 0, .int .i64 0, .int .i64 0, .int .i64 0]) 5 40 Tryz.underlying30 hi hz0 hz1 hz2 rfl (by decide) (Value.slice va out.length vc) (out.length) _ rfl (ownsRow_fr0 hrow.out ((Fr0.refl none' w2).alloc _) (fun _ _ h => h)) (.slice (some ⟨(w2).heap.size, 0, none⟩) 1 1) 1 _ rfl hsrc (by unfold maxLen; omega) (by omega) (by simp; omega) ?_; intro v9 w9 hown hgrow hdr hob; obtain ⟨g9, c9, rfl⟩ := ownsRow_k_succ hown; have Lw9 := Lib.hid hrow.out.lt; have Fw9 := Lib.hid (show Fr0 (fun i => (Value.slice va out.length vc).ownBlock = some i) w2 w9 from ((Fr0.refl _ w2).alloc _).grown hgrow (fun i hi _ => hi)); have Rw9 := Lib.hid hown; clear hown hgrow hdr hob hsrc; obtain ⟨x0, x1, x2, x3, x4⟩ := HY.out.later (hfr.out.trans' Fw9.out (fun i hi h => by have := (Lw9.out i h).1; omega)); have hbase : w.heap.size + 1 ≤ w9.heap.size := Nat.le_trans hbase Fw9.out.size; have hsrc2 := Src.newRow (P := Tryz.prog) (size := 5) (tx := 30) (ty := 28) w9 Tryz.underlying30 1 1 (cev y) rfl (by simp [Value.oneCell', cev]); simp only [cev] at hsrc2) | (refine wpList_append_k rfl _ _ 30 30 rfl (w.heap.size + 1) 28 i0 (.agg #[.int .i64 0, .int .i64 0, .int .i64 0, .int .i64 0, .int .i64 0]) 5 40 Tryz.underlying30 hi hz0 hz1 hz2 rfl (by decide) (Value.slice (some ⟨g9, 0, none⟩) (out.length + 1) c9) (out.length + 1) _ rfl (ownsRow_fr0 Rw9.out ((Fr0.refl none' w9).alloc _) (fun _ _ h => h)) (.slice (some ⟨(w9).heap.size, 0, none⟩) 1 1) 1 _ rfl hsrc2 (by unfold maxLen; omega) (by omega) (by simp; omega) ?_; intro v9 w10 hown hgrow hdr hob; obtain ⟨g10, c10, rfl⟩ := ownsRow_k_succ hown; have Lw10 := Lib.hid Rw9.out.lt; have Fw10 := Lib.hid (show Fr0 (fun i => (Value.slice (some ⟨g9, 0, none⟩) (out.length + 1) c9).ownBlock = some i) w9 w10 from ((Fr0.refl _ w9).alloc _).grown hgrow (fun i hi _ => hi)); have Rw10 := Lib.hid hown; clear hown hgrow hdr hob hsrc2))
          have hrow := Lib.hid (show (w9).ownsRow (w.heap.size + 1) 28 5 (.slice (some ⟨g9, 0, none⟩) (out.length + 1) c9) (out.length + 1) (flatEv (out ++ [x])) by simpa [flatEv, cev] using Rw9.out)
          have hbx := Lib.hid ((Fw9.out.block B (Array.getElem?_eq_some_iff.1 hbx.out).1 (fun h => by have := (Lw9.out B h).1; have := Hb.out; omega)).trans hbx.out)
          have hfr := Lib.hid (hfr.out.trans' Fw9.out (fun i hi h => by have := (Lw9.out i h).1; omega))
          have hrow := Lib.hid (show (w10).ownsRow (w.heap.size + 1) 28 5 (.slice (some ⟨g10, 0, none⟩) (out.length + 1 + 1) c10) (out.length + 1 + 1) (flatEv (out ++ [x] ++ [y])) by simpa [flatEv, cev] using Rw10.out)
          have hbx := Lib.hid ((Fw10.out.block B (Array.getElem?_eq_some_iff.1 hbx.out).1 (fun h => by have := (Lw10.out B h).1; have := Hb.out; omega)).trans hbx.out)
          have hfr := Lib.hid (hfr.out.trans' Fw10.out (fun i hi h => by have := (Lw10.out i h).1; omega))
          clear a0 a1 a2 a3 a4 x0 x1 x2 x3 x4
          go_roundw
          case rel => exact ⟨k + 1, _, _, by omega, by go_num, rfl, Hst, by simpa using hrow, hbx, hfr⟩
          case measure => simp [Go.RowKit.intOf]; omega
        | false =>
          have hst := Hsn.out
          rw [show wStep x (false, out) y = (false, out ++ [y]) by unfold wStep; rw [if_neg (fun h => of_decide_eq_false Hc.out h.2)]] at hst
          have Hst := Lib.hid hst
          clear hst
          obtain ⟨x0, x1, x2, x3, x4⟩ := HY.out.later hfr.out
          have hsrc := Src.newRow (P := Tryz.prog) (size := 5) (tx := 30) (ty := 28) w2 Tryz.underlying30 1 1 (cev y) rfl (by simp [Value.oneCell', cev])
          simp only [cev] at hsrc
          have hbase : w.heap.size + 1 ≤ (w2).heap.size := by have h1 := (Array.getElem?_eq_some_iff.1 hbx.out).1; have := Hb.out; omega
          go_wp2_with (at_builtin; refine wpList_append_k rfl _ _ 30 30 rfl (w.heap.size + 1) 28 i0 (.agg #[.int .i64 0, .int .i64 0, .int .i64 0, .int .i64 0, .int .i64 0]) 5 40 Tryz.underlying30 hi hz0 hz1 hz2 rfl (by decide) (Value.slice va out.length vc) (out.length) _ rfl (ownsRow_fr0 hrow.out ((Fr0.refl none' w2).alloc _) (fun _ _ h => h)) (.slice (some ⟨(w2).heap.size, 0, none⟩) 1 1) 1 _ rfl hsrc (by unfold maxLen; omega) (by omega) (by simp; omega) ?_; intro v9 w9 hown hgrow hdr hob; obtain ⟨g9, c9, rfl⟩ := ownsRow_k_succ hown; have Lw9 := Lib.hid hrow.out.lt; have Fw9 := Lib.hid (show Fr0 (fun i => (Value.slice va out.length vc).ownBlock = some i) w2 w9 from ((Fr0.refl _ w2).alloc _).grown hgrow (fun i hi _ => hi)); have Rw9 := Lib.hid hown; clear hown hgrow hdr hob hsrc)
          have hrow := Lib.hid (show (w9).ownsRow (w.heap.size + 1) 28 5 (.slice (some ⟨g9, 0, none⟩) (out.length + 1) c9) (out.length + 1) (flatEv (out ++ [y])) by simpa [flatEv, cev] using Rw9.out)
          have hbx := Lib.hid ((Fw9.out.block B (Array.getElem?_eq_some_iff.1 hbx.out).1 (fun h => by have := (Lw9.out B h).1; have := Hb.out; omega)).trans hbx.out)
          have hfr := Lib.hid (hfr.out.trans' Fw9.out (fun i hi h => by have := (Lw9.out i h).1; omega))
          clear x0 x1 x2 x3 x4
          go_roundw
          case rel => exact ⟨k + 1, _, _, by omega, by go_num, rfl, Hst, by simpa using hrow, hbx, hfr⟩
          case measure => simp [Go.RowKit.intOf]; omega
    · have hkn : k = n := by omega
      subst hkn
      have hrun' := hrun.out
      rw [List.take_of_length_le (by rw [Hl.out]; exact Nat.le_refl _)] at hrun'
      have hwe : withE x E = if b then out else out ++ [x] := by unfold withE; rw [hrun']
      cases b with
      | true =>
        rw [if_pos rfl] at hwe
        have hfin := Lib.hid (show wr.ownsRow w.heap.size 28 5 (.slice va out.length vc) (withE x E).length (flatEv (withE x E)) by rw [hwe]; exact own_low hrow.out (by omega))
        clear hwe hrun'
        go_wp2_with fail
        go_ret
        exact ⟨_, rfl, hfin.out, hfr.out⟩
      | false =>
        rw [if_neg (by simp)] at hwe
        have hW := Lib.hid hwe
        clear hwe hrun'
        have hsrc := Src.newRow (P := Tryz.prog) (size := 5) (tx := 30) (ty := 28) wr Tryz.underlying30 1 1 (cev x) rfl (by simp [Value.oneCell', cev])
        simp only [cev] at hsrc
        have hbase : w.heap.size + 1 ≤ (wr).heap.size := by have h1 := (Array.getElem?_eq_some_iff.1 hbx.out).1; have := Hb.out; omega
        go_wp2_with (at_builtin; refine wpList_append_k rfl _ _ 30 30 rfl (w.heap.size + 1) 28 i0 (.agg #[.int .i64 0, .int .i64 0, .int .i64 0, .int .i64 0, .int .i64 0]) 5 40 Tryz.underlying30 hi hz0 hz1 hz2 rfl (by decide) (Value.slice va out.length vc) (out.length) _ rfl (ownsRow_fr0 hrow.out ((Fr0.refl none' wr).alloc _) (fun _ _ h => h)) (.slice (some ⟨(wr).heap.size, 0, none⟩) 1 1) 1 _ rfl hsrc (by unfold maxLen; omega) (by omega) (by simp; omega) ?_; intro v9 w9 hown hgrow hdr hob; obtain ⟨g9, c9, rfl⟩ := ownsRow_k_succ hown; have Lw9 := Lib.hid hrow.out.lt; have Fw9 := Lib.hid (show Fr0 (fun i => (Value.slice va out.length vc).ownBlock = some i) wr w9 from ((Fr0.refl _ wr).alloc _).grown hgrow (fun i hi _ => hi)); have Rw9 := Lib.hid hown; clear hown hgrow hdr hob hsrc)
        have hrow := Lib.hid (show (w9).ownsRow (w.heap.size + 1) 28 5 (.slice (some ⟨g9, 0, none⟩) (out.length + 1) c9) (out.length + 1) (flatEv (out ++ [x])) by simpa [flatEv, cev] using Rw9.out)
        have hbx := Lib.hid ((Fw9.out.block B (Array.getElem?_eq_some_iff.1 hbx.out).1 (fun h => by have := (Lw9.out B h).1; have := Hb.out; omega)).trans hbx.out)
        have hfr := Lib.hid (hfr.out.trans' Fw9.out (fun i hi h => by have := (Lw9.out i h).1; omega))
        go_ret
        refine ⟨_, rfl, ?_, hfr.out⟩
        rw [hW.out, List.length_append, List.length_singleton]
        exact own_low hrow.out (by omega)
end Go.Proofs.YtmcgipilopfgoaaGreat

/-
  The queue: PutAll, Put.
-/
namespace Go.Proofs.YtmcgipilopfgoaaGreat
open Go Go.RowKit Go.ChangeMaps
attribute [local go_sem ↓] Go.wp_at_zero Go.wp_at_succ
attribute [local go_sem] Oper.semAt_some wide_fn wide_depth wide_fnR wide_depthR
variable {w w' : World} {qb n T : Nat} {E : List Ev} {ft : Nat → Prop}

/-- What PutAll tells; what it makes. -/
def allV (n : Nat) (E l : List Ev) : Int × Int := if (chkE E l).2 ≠ 0 then chkE E l else if n - E.length < l.length then (-1, 4) else (-1, 0)
def allE (n : Nat) (E l : List Ev) : List Ev := if (allV n E l).2 = 0 then putsE l E else E
theorem chkE_ok {E l : List Ev} (h : (chkE E l).2 = 0) : (∀ x ∈ l, RightE x) ∧ (∀ i, i < l.length → dupB E l i = false) ∧ chkE E l = (-1, 0) := by
  unfold chkE at h ⊢
  rcases idxI_cases (fun x => !decide (RightE x)) l with ⟨hi, hall⟩ | ⟨k, hi, _⟩
  · rw [hi, if_neg (by omega)] at h ⊢
    rcases dupI_cases E l with ⟨hd, hn⟩ | ⟨k, hd, _⟩
    · rw [hd, if_neg (by omega)]
      exact ⟨fun x hx => by simpa using hall x hx, hn, rfl⟩
    · rw [hd, if_pos (by omega)] at h
      exact absurd h (by simp)
  · rw [hi, if_pos (by omega)] at h
    exact absurd h (by simp)
theorem QIs.foot {ft' : Nat → Prop} (h : QIs w qb n T E ft) (hs : ∀ k, ft k → ft' k) (hl : ∀ k, ft' k → k < w.heap.size) : QIs w qb n T E ft' := by
  obtain ⟨sb, pb, hb, ba, eb, mb, hv, X, F, P, first, V, h1, h2, h3, h4⟩ := h
  exact ⟨sb, pb, hb, ba, eb, mb, hv, X, F, P, first, V, h1, h2, fun k hk => hs k (h3 k hk), hl⟩
theorem qgrow_refl (h : QIs w qb n T E ft) : QIs w qb n T E (qgrow ft w w) := h.foot (fun k hk => .inl hk) (fun k hk => hk.elim (h.lt k) (fun g => g.2))
theorem qgrow_trans {a b c : World} (hab : a.heap.size ≤ b.heap.size) (hbc : b.heap.size ≤ c.heap.size) {k : Nat} (h : qgrow (qgrow ft a b) b c k) : qgrow ft a c k := by
  rcases h with (h | h) | h
  · exact .inl h
  · exact .inr ⟨h.1, by omega⟩
  · exact .inr ⟨by omega, h.2⟩
theorem qgrow_lt {a b : World} (hab : a.heap.size ≤ b.heap.size) (hlt : ∀ k, ft k → k < a.heap.size) {k : Nat} (h : qgrow ft a b k) : k < b.heap.size := by
  rcases h with h | h
  · have := hlt k h; omega
  · exact h.2
theorem fr_grow {a b c : World} (h1 : Fr0 ft a b) (h2 : Fr0 (qgrow ft a b) b c) : Fr0 ft a c := h1.trans' h2 (fun k hk h => by
  rcases h with h | h
  · exact h
  · omega)
/-- Two acts, one behind the other. -/
theorem QIs.then {b c : World} {T' : Nat} {E' : List Ev} (h : QIs c qb n T' E' (qgrow (qgrow ft w b) b c)) (h1 : w.heap.size ≤ b.heap.size) (h2 : b.heap.size ≤ c.heap.size) (hlt : ∀ k, ft k → k < w.heap.size) : QIs c qb n T' E' (qgrow ft w c) :=
  h.foot (fun _ hk => qgrow_trans h1 h2 hk) (fun _ hk => qgrow_lt (Nat.le_trans h1 h2) hlt hk)
/-- A world that keeps a queue, ahead of an act. -/
theorem QIs.after {b c : World} {T' : Nat} {E' : List Ev} (h : QIs c qb n T' E' (qgrow ft b c)) (h1 : w.heap.size ≤ b.heap.size) (h2 : b.heap.size ≤ c.heap.size) (hlt : ∀ k, ft k → k < w.heap.size) : QIs c qb n T' E' (qgrow ft w c) :=
  h.foot (fun _ hk => hk.elim .inl (fun g => .inr ⟨by omega, g.2⟩)) (fun _ hk => qgrow_lt (Nat.le_trans h1 h2) hlt hk)
theorem QIs.isnt (h : QIs w qb n T E ft) : Calls Tryz.prog 58 #[.pointer (some ⟨qb, 0, none⟩)] w fun e w' => e = .returned (.bool false) ∧ w = w' := by
  obtain ⟨sb, pb, hb, ba, eb, mb, hv, X, F, P, first, V, h1, rfl, h3, h4⟩ := h
  exact qnone_is h1
theorem QIs.check (h : QIs w qb n T E ft) {a : Option Addr} {m cap : Nat} (l : List Ev) (hl : EsIn w a l) (hm : l.length = m) (hm' : m ≤ 100000) :
    Calls Tryz.prog 61 #[.pointer (some ⟨qb, 0, none⟩), .slice a m cap] w fun e w' => e = .returned (.tuple #[.int .i64 (chkE E l).1, .int .i64 (chkE E l).2]) ∧ Fr0 none' w w' := by
  obtain ⟨sb, pb, hb, ba, eb, mb, hv, X, F, P, first, V, h1, rfl, h3, h4⟩ := h
  exact Qcheck_is h1 l hl hm hm'
set_option maxRecDepth 100000 in
set_option maxHeartbeats 2000000 in
theorem QIs.putAll (h : QIs w qb n T E ft) {a : Option Addr} {m cap : Nat} (l : List Ev) (hl : EsIn w a l) (hm : l.length = m) (hm' : m ≤ 100000) (hT : T + m < 4294967295) (ha : ∀ g o s, a = some ⟨g, o, s⟩ → ¬ ft g) :
    Calls Tryz.prog 26 #[.pointer (some ⟨qb, 0, none⟩), .slice a m cap] w fun e w' => e = .returned (.tuple #[.int .i64 (allV n E l).1, .int .i64 (allV n E l).2]) ∧ QIs w' qb n (T + m) (allE n E l) (qgrow ft w w') ∧ Fr0 ft w w' := by
  obtain ⟨R, hR⟩ : ∃ R, allV n E l = R := ⟨_, rfl⟩
  have H := Lib.hid h
  have Hl := Lib.hid hl
  have Hm := Lib.hid hm
  have Ha := Lib.hid ha
  obtain ⟨C, hC⟩ : ∃ C, chkE E l = C := ⟨_, rfl⟩
  have HCk := Lib.hid (h.check l (cap := cap) hl hm hm')
  rw [hC] at HCk
  obtain ⟨ci, ce⟩ := C
  have hle := h.le
  unfold allE
  rw [hR]
  have HR := Lib.hid hR
  have HC := Lib.hid hC
  simp only at HCk
  by_cases hc0 : ce = 0
  · subst hc0
    obtain ⟨hr, hd, hc1⟩ := chkE_ok (E := E) (l := l) (by rw [hC])
    have d0 : ((0 : Int) != 0) = false := by simp
    have HRi := Lib.hid hr
    have HD := Lib.hid hd
    by_cases hroom : n - E.length < m
    · have hres : R = (-1, 4) := by rw [← hR]; unfold allV; rw [hC, if_neg (by simp), if_pos (by rw [hm]; exact hroom)]
      subst hres
      rw [if_neg (by simp)]
      have d1 : decide (((n - E.length : Nat) : Int) < (m : Int)) = true := decide_eq_true (by omega)
      have d2 : decide (n - E.length < m) = true := decide_eq_true hroom
      clear h hl hm ha hC hR hr hd hc1 hroom hle
      go_enter Tryz.func26, Tryz.ntmps26
      go_wp2_with fail
      refine H.out.isnt.mono ?_
      rintro e w1 ⟨rfl, rfl⟩
      go_wp2_with fail
      refine HCk.out.mono ?_
      rintro e w2 ⟨rfl, hf2⟩
      have H2 := Lib.hid (H.out.later hf2)
      have F2 := Lib.hid hf2
      clear hf2
      go_wp2_with fail
      refine H2.out.room.mono ?_
      rintro e w3 ⟨rfl, hf3⟩
      have F3 := Lib.hid (F2.out.trans hf3)
      clear hf3
      go_wp2_with fail
      go_ret2
      exact ⟨rfl, ((H.out.later F3.out).mono (Nat.le_add_right _ _)).foot (fun _ hk => .inl hk) (fun k hk => qgrow_lt F3.out.size H.out.lt hk), F3.out.mono (fun _ _ h => h.elim)⟩
    · have hres : R = (-1, 0) := by rw [← hR]; unfold allV; rw [hC, if_neg (by simp), if_neg (by rw [hm]; exact hroom)]
      subst hres
      rw [if_pos rfl]
      have d1 : decide (((n - E.length : Nat) : Int) < (m : Int)) = false := decide_eq_false (by omega)
      have d2 : decide (n - E.length < m) = false := decide_eq_false hroom
      have Hroom := Lib.hid hroom
      have Hle := Lib.hid hle
      clear h hl hm ha hC hR hr hd hc1 hroom hle
      go_enter Tryz.func26, Tryz.ntmps26
      go_wp2_with fail
      refine H.out.isnt.mono ?_
      rintro e w1 ⟨rfl, rfl⟩
      go_wp2_with fail
      refine HCk.out.mono ?_
      rintro e w2 ⟨rfl, hf2⟩
      have H2 := Lib.hid (H.out.later hf2)
      have F2 := Lib.hid hf2
      clear hf2
      go_wp2_with fail
      refine H2.out.room.mono ?_
      rintro e w3 ⟨rfl, hf3⟩
      have F3 := Lib.hid (F2.out.trans hf3)
      clear hf3
      go_wp2_with fail
      go_loopw [9, 29] (fun _ i wr => ∃ k : Nat, k ≤ m ∧ i = .int .i64 k ∧ Hid (QIs wr qb n (T + k) (putsE (l.take k) E) (qgrow ft w wr)) ∧ Hid (Fr0 ft w wr)) (fun _ i _ => m - (Go.RowKit.intOf i).toNat)
      case atStart => exact ⟨0, Nat.zero_le _, rfl, (H.out.later F3.out).foot (fun _ hk => .inl hk) (fun k hk => qgrow_lt F3.out.size H.out.lt hk), F3.out.mono (fun _ _ h => h.elim)⟩
      case round =>
        obtain ⟨k, hk, rfl, hq, hfr⟩ := hrel
        by_cases hlt : k < m
        · obtain ⟨x, hx⟩ : ∃ x, l[k]? = some x := ⟨_, List.getElem?_eq_getElem (by rw [Hm.out]; exact hlt)⟩
          have hlw := Hl.out.fr0 hfr.out Ha.out
          obtain ⟨g2, o, rfl, hxc⟩ := hlw k x hx
          obtain ⟨x0, x1, x2, x3, x4⟩ := hxc
          have hre := HRi.out x (List.mem_of_getElem? hx)
          have hsn : putsE (l.take (k + 1)) E = insE x (putsE (l.take k) E) := by rw [List.take_add_one, hx]; exact putsE_snoc _ _ _
          have hnm : ∀ y ∈ putsE (l.take k) E, y.name ≠ x.name := fun y hy => by
            have h2 := HD.out k (by rw [Hm.out]; exact hlt)
            unfold dupB at h2
            rw [hx] at h2
            simp only [List.any_append, Bool.or_eq_false_iff, List.any_eq_false, beq_iff_eq] at h2
            rcases putsE_mem.1 hy with hy | hy
            · exact h2.2 y hy
            · exact h2.1 y hy
          have hroom : (putsE (l.take k) E).length < n := by
            rw [putsE_length, List.length_take, Hm.out]
            have := Hroom.out
            have := Hle.out
            omega
          have HPt := Lib.hid (fun (W : World) (hf : Fr0 none' wr W) => (hq.out.later hf).put hre hnm (by omega) hroom)
          have Hsn := Lib.hid hsn
          have k1 : (0 : Int) ≤ (k : Int) := by omega
          have k2 : (k : Int) < (m : Int) := by omega
          clear hx hlw hre hsn hnm hroom
          unfold evV at HPt
          go_wp2_with fail
          refine (HPt.out _ ((Fr0.refl none' wr).alloc _)).mono ?_
          rintro e w5 ⟨rfl, hq5, hf5⟩
          have hs5 : wr.heap.size ≤ w5.heap.size := by have := hf5.size; rw [World.size_alloc] at this; omega
          have hq5 := Lib.hid ((hq5.after (w := wr) (by simp) hf5.size (fun k hk => hq.out.lt k hk)).then hfr.out.size hs5 H.out.lt)
          have hf5 := Lib.hid (fr_grow hfr.out (((Fr0.refl none' wr).alloc (.cells #[.int .i64 x.key.time, .int .i64 x.key.source, .int .i64 x.key.seq, .int .i64 x.to, .int .i64 x.value] 28)).mono (fun _ _ h => h.elim) |>.trans hf5))
          rw [← Hsn.out] at hq5
          clear x0 x1 x2 x3 x4
          go_wp2_with fail
          go_roundw
          case rel => exact ⟨k + 1, by omega, by go_num, hq5, hf5⟩
          case measure => simp [Go.RowKit.intOf]; omega
        · have hkm : k = m := by omega
          subst hkm
          rw [List.take_of_length_le (by rw [Hm.out]; exact Nat.le_refl _)] at hq
          go_wp2
          go_ret2
          exact ⟨rfl, hq.out, hfr.out⟩
  · have hres : R = (ci, ce) := by rw [← hR]; unfold allV; rw [hC, if_pos hc0]
    subst hres
    rw [if_neg hc0]
    have d0 : (ce != 0) = true := by simpa using hc0
    clear h hl hm ha hC hR hle hc0
    go_enter Tryz.func26, Tryz.ntmps26
    go_wp2_with fail
    refine H.out.isnt.mono ?_
    rintro e w1 ⟨rfl, rfl⟩
    go_wp2_with fail
    refine HCk.out.mono ?_
    rintro e w2 ⟨rfl, hf2⟩
    go_wp2_with fail
    go_ret2
    exact ⟨rfl, ((H.out.later hf2).mono (Nat.le_add_right _ _)).foot (fun _ hk => .inl hk) (fun k hk => qgrow_lt hf2.size H.out.lt hk), hf2.mono (fun _ _ h => h.elim)⟩
set_option maxRecDepth 100000 in
set_option maxHeartbeats 2000000 in
theorem QIs.put1 (h : QIs w qb n T E ft) (x : Ev) (hT : T + 1 < 4294967295) :
    Calls Tryz.prog 22 #[.pointer (some ⟨qb, 0, none⟩), evV x] w fun e w' => e = .returned (.int .i64 (allV n E [x]).2) ∧ QIs w' qb n (T + 1) (allE n E [x]) (qgrow ft w w') ∧ Fr0 ft w w' := by
  have H := Lib.hid h
  obtain ⟨R, hR⟩ : ∃ R, allV n E [x] = R := ⟨_, rfl⟩
  obtain ⟨E', hE'⟩ : ∃ E', allE n E [x] = E' := ⟨_, rfl⟩
  rw [hR, hE']
  have HR := Lib.hid hR
  have HE := Lib.hid hE'
  clear h hR hE'
  unfold evV
  go_enter Tryz.func22, Tryz.ntmps22
  go_wp2_with fail
  obtain ⟨W1, hW1⟩ : ∃ W, ((w.alloc (.cells #[.int .i64 x.key.time, .int .i64 x.key.source, .int .i64 x.key.seq, .int .i64 x.to, .int .i64 x.value] 28)).alloc (.cells #[.int .i64 x.key.time, .int .i64 x.key.source, .int .i64 x.key.seq, .int .i64 x.to, .int .i64 x.value] 28)) = W := ⟨_, rfl⟩
  have f1 : Fr0 none' w W1 := by rw [← hW1]; exact ((Fr0.refl _ _).alloc _).alloc _
  have hl1 : EsIn W1 (some ⟨w.heap.size + 1, 0, none⟩) [x] := by
    rw [← hW1]
    have := World.alloc_heap_new (w.alloc (.cells #[.int .i64 x.key.time, .int .i64 x.key.source, .int .i64 x.key.seq, .int .i64 x.to, .int .i64 x.value] 28)) (.cells #[.int .i64 x.key.time, .int .i64 x.key.source, .int .i64 x.key.seq, .int .i64 x.to, .int .i64 x.value] 28)
    rw [World.size_alloc] at this
    exact EsIn.of_cells (n := 1) this (by simp [flatEv, cev])
  rw [hW1]
  refine ((H.out.later f1).putAll (m := 1) (cap := 1) [x] hl1 rfl (by omega) hT (fun g o s e => by
    have e1 : w.heap.size + 1 = g := by injection e with e; injection e
    intro hg
    have := H.out.lt g hg
    omega)).mono ?_
  rintro e w2 ⟨rfl, hq2, hf2⟩
  rw [HE.out] at hq2
  rw [HR.out]
  have hq2 := Lib.hid (hq2.after f1.size hf2.size H.out.lt)
  have hf2 := Lib.hid ((f1.mono (fun _ _ h => h.elim)).trans hf2)
  clear hW1 f1 hl1
  go_wp2_with fail
  go_ret
  exact ⟨rfl, hq2.out, hf2.out⟩
end Go.Proofs.YtmcgipilopfgoaaGreat

/-
  The reference of layer 10: Take, Find.
-/
namespace Go.Proofs.YtmcgipilopfgoaaGreat
open Go Go.RowKit
attribute [local go_sem ↓] Go.wp_at_zero Go.wp_at_succ
attribute [local go_sem] Oper.semAt_some wide_fn wide_depth wide_fnR wide_depthR

/-- A queue of the reference: its capacity, its events in a row that lies in the old one's block, or in a new one. -/
def RAt (w' : World) (a : Option Addr) (N : Nat) (c : Int) (E : List Ev) (v : Value) : Prop := ∃ a' cap, v = .agg #[.int .i64 c, .slice a' E.length cap] ∧ E.length ≤ cap ∧ EsIn w' a' E ∧ ∀ g o s, a' = some ⟨g, o, s⟩ → (∃ o' s', a = some ⟨g, o', s'⟩) ∨ (N ≤ g ∧ g < w'.heap.size)
theorem RAt.same {w w' : World} {a : Option Addr} {N cap : Nat} {c : Int} {E : List Ev} (h : EsIn w a E) (hf : Fr0 none' w w') (hc : E.length ≤ cap) : RAt w' a N c E (.agg #[.int .i64 c, .slice a E.length cap]) :=
  ⟨a, cap, rfl, hc, h.later hf, fun g o s e => .inl ⟨o, s, e⟩⟩
theorem RAt.own {w' : World} {a : Option Addr} {base N : Nat} {c : Int} {E : List Ev} {v : Value} (h : w'.ownsRow base 28 5 v E.length (flatEv E)) (hb : N ≤ base) : RAt w' a N c E (.agg #[.int .i64 c, v]) := by
  have hlt := h.lt
  have hcap : ∀ a' cap, v = .slice a' E.length cap → E.length ≤ cap := fun a' cap hv => by
    rcases h.2 with ⟨h0, h1⟩ | ⟨g, cap', cur, hv', _, _, hn, _⟩
    · omega
    · rw [hv] at hv'; injection hv' with _ _ h; omega
  have hown := h.2
  obtain ⟨a', cap, rfl, _, he⟩ := EsIn.of_own h
  refine ⟨a', cap, rfl, hcap a' cap rfl, he, fun g o s e => .inr ?_⟩
  rcases hown with ⟨h0, h1⟩ | ⟨g', cap', cur, hv', hg, _⟩
  · injection h0 with h0 _ _
    rw [h0] at e; cases e
  · injection hv' with h1 _ _
    rw [h1] at e
    injection e with e
    injection e with e1 _ _
    subst e1
    have := hlt g' (by rw [h1]; rfl)
    omega
/-- Where a slice's rest starts. -/
def dR (cap n : Nat) (a : Option Addr) : Option Addr := if cap = n then a else a.map (fun x => x.add (n * 5))
theorem EsIn.restR {W : World} {a : Option Addr} {S : List Ev} (h : EsIn W a S) {cap : Nat} (hc : S.length ≤ cap) (n : Nat) : EsIn W (dR cap n a) (S.drop n) := by
  unfold dR
  split
  · next e =>
    rw [List.drop_of_length_le (by omega)]
    exact esIn_nil W a
  · cases a with
    | none =>
      intro i x hx
      rw [List.getElem?_drop] at hx
      obtain ⟨g, o, e, _⟩ := h _ x hx
      cases e
    | some A =>
      intro i x hx
      have hx' := hx
      rw [List.getElem?_drop] at hx'
      obtain ⟨g, o, e, _⟩ := h _ x hx'
      injection e with e
      subst e
      have h1 := h.drop n i x hx
      rw [Option.map_some, Addr.add_mid]
      exact h1
theorem RAt.rest {w w' : World} {a : Option Addr} {N cap m : Nat} {c : Int} {E : List Ev} (h : EsIn w a E) (hl : E.length = m) (hf : Fr0 none' w w') (hc : m ≤ cap) (n : Nat) (hn : n ≤ m) : RAt w' a N c (E.drop n) (.agg #[.int .i64 c, .slice (dR cap n a) (m - n) (cap - n)]) := by
  subst hl
  refine ⟨dR cap n a, cap - n, by rw [List.length_drop], by rw [List.length_drop]; omega, (h.later hf).restR hc n, fun g o s e => .inl ?_⟩
  unfold dR at e
  split at e
  · exact ⟨o, s, e⟩
  · cases a with
    | none => cases e
    | some A =>
      rw [Option.map_some] at e
      injection e with e
      have hb : (A.add (n * 5)).block = A.block := by unfold Addr.add; split <;> rfl
      rw [e] at hb
      obtain ⟨g', o', s'⟩ := A
      simp only at hb
      subst hb
      exact ⟨o', s', rfl⟩
set_option maxRecDepth 100000 in
set_option maxHeartbeats 2000000 in
theorem rTake_nil {w : World} {a : Option Addr} {cap : Nat} (c : Int) :
    Calls Tryz.prog 48 #[.agg #[.int .i64 c, .slice a 0 cap]] w fun e w' => e = .returned (.tuple #[.agg #[.int .i64 c, .slice a 0 cap], evV ⟨⟨0, 0, 0⟩, 0, 0⟩, .int .i64 6]) ∧ Fr0 none' w w' := by
  obtain ⟨m, hm⟩ : ∃ m, 0 = m := ⟨_, rfl⟩
  unfold evV
  rw [hm]
  have d1 : (((m : Nat) : Int) == 0) = true := by rw [← hm]; rfl
  clear hm
  go_enter Tryz.func48, Tryz.ntmps48
  go_wp2_with fail
  exact bodyPost_ret (v := .tuple #[.agg #[.int .i64 c, .slice a m cap], .agg #[.int .i64 0, .int .i64 0, .int .i64 0, .int .i64 0, .int .i64 0], .int .i64 6]) (by simp [results, Tryz.results48, go_sem]) rfl ⟨rfl, (((Fr0.refl _ _).alloc _).alloc _).alloc _⟩
set_option maxRecDepth 100000 in
set_option maxHeartbeats 2000000 in
theorem rTake_some {w : World} {a : Option Addr} {m cap : Nat} (c : Int) (x : Ev) (E : List Ev) (h : EsIn w a (x :: E)) (hl : E.length + 1 = m) (hm : m ≤ 1000) (hc : m ≤ cap) :
    Calls Tryz.prog 48 #[.agg #[.int .i64 c, .slice a m cap]] w fun e w' => ∃ v, e = .returned (.tuple #[v, evV x, .int .i64 0]) ∧ RAt w' a w.heap.size c E v ∧ Fr0 none' w w' := by
  have H := Lib.hid h
  have Hl := Lib.hid hl
  have d1 : ((m : Int) == 0) = false := beq_eq_false_iff_ne.2 (by omega)
  clear h hl
  unfold evV
  go_enter Tryz.func48, Tryz.ntmps48
  go_wp2_with fail
  obtain ⟨SB, hSB⟩ : ∃ B, w.heap.size = B := ⟨_, rfl⟩
  obtain ⟨W1, hW1⟩ : ∃ W, w.alloc (.cells #[.int .i64 c, .slice a m cap] 50) = W := ⟨_, rfl⟩
  have HS := Lib.hid (show W1.heap[SB]? = some (.cells #[.int .i64 c, .slice a m cap] 50 (0, 0)) by rw [← hW1, ← hSB]; exact World.alloc_heap_new w _)
  have HF := Lib.hid (show Fr0 none' w W1 by rw [← hW1]; exact (Fr0.refl _ _).alloc _)
  rw [hW1]
  try rw [hSB]
  have HSB := Lib.hid hSB
  have HSz := Lib.hid (show W1.heap.size = SB + 1 by rw [← hW1, World.size_alloc, hSB])
  clear hW1 hSB
  have s0 := cells_in HS.out 0
  have s1 := cells_in HS.out 1
  simp at s0 s1
  go_wp2_with fail
  obtain ⟨W3, hW3⟩ : ∃ W, (W1.alloc (.cells #[.int .i64 0, .slice none 0 0] 50)).alloc (.cells #[.int .i64 0, .int .i64 0, .int .i64 0, .int .i64 0, .int .i64 0] 28) = W := ⟨_, rfl⟩
  have h3 : Fr0 none' W1 W3 := by rw [← hW3]; exact ((Fr0.refl _ _).alloc _).alloc _
  have HR1 := Lib.hid (show W3.heap[SB + 1]? = some (.cells #[.int .i64 0, .slice none 0 0] 50 (0, 0)) by
    rw [← hW3, ← HSz.out]
    exact ((((Fr0.refl none' (W1.alloc (.cells #[.int .i64 0, .slice none 0 0] 50))).alloc _).block W1.heap.size (by rw [World.size_alloc]; omega) id)).trans (World.alloc_heap_new W1 _))
  have HR2 := Lib.hid (show W3.heap[SB + 1 + 1]? = some (.cells #[.int .i64 0, .int .i64 0, .int .i64 0, .int .i64 0, .int .i64 0] 28 (0, 0)) by
    have h7 := World.alloc_heap_new (W1.alloc (.cells #[.int .i64 0, .slice none 0 0] 50)) (.cells #[.int .i64 0, .int .i64 0, .int .i64 0, .int .i64 0, .int .i64 0] 28)
    rw [World.size_alloc, HSz.out] at h7
    rw [← hW3]
    exact h7)
  have HS3 := Lib.hid ((h3.block SB (Array.getElem?_eq_some_iff.1 HS.out).1 id).trans HS.out)
  have HF3 := Lib.hid (HF.out.trans h3)
  rw [hW3]
  clear hW3 h3 s0 s1
  obtain ⟨g, o, rfl, hat⟩ := H.out 0 x rfl
  rw [Nat.zero_mul, Nat.add_zero] at hat
  have hgl : ∀ b, w.heap.size ≤ b → g ≠ b := fun b hb e => by
    have := World.block_lt_of_cell? _ _ hat.1
    simp only at this
    omega
  have hat3 := hat.later HF3.out
  have HZ := Lib.hid (fun (W' : World) (hf : Fr0 (fun k => k = SB + 1 ∨ k = SB + 1 + 1) W3 W') => (show W'.cell? ⟨SB, 0, none⟩ = some (.int .i64 c) ∧ W'.cell? ⟨SB, 1, none⟩ = some (.slice (some ⟨g, o, none⟩) m cap) ∧ EAt W' g o x from by
    have h7 := (hf.block SB (Array.getElem?_eq_some_iff.1 HS3.out).1 (fun h => by rcases h with h | h <;> omega)).trans HS3.out
    have s0 := cells_in h7 0
    have s1 := cells_in h7 1
    simp at s0 s1
    exact ⟨s0, s1, hat3.fr0 hf (fun h => by have h8 := HSB.out; rcases h with h | h <;> exact hgl _ (by omega) h)⟩))
  have hdR : (if cap = 1 then some (⟨g, o, none⟩ : Addr) else some ⟨g, o + 5, none⟩) = dR cap 1 (some ⟨g, o, none⟩) := rfl
  have hlm := Hl.out
  have m1 : (1 : Int) ≤ (m : Int) := by omega
  have m2 : (m : Int) ≤ (cap : Int) := by omega
  have m3 : (0 : Int) < (m : Int) := by omega
  clear hlm
  refine wp_region_held_drew (S := fun W' => Fr0 (fun k => k = SB + 1 ∨ k = SB + 1 + 1) W3 W') (by kernel_rfl) ((Fr0.refl _ W3).drew) (fun hHeld => ?_)
  refine take_on (i := 0) (v := .pointer (some ⟨SB, 0, none⟩)) rfl (by kernel_rfl) (by kernel_rfl) (by kernel_rfl) (fun _ _ _ h => h) (by kernel_rfl) (fun W' hSW => ?_) (by assumption) ?_
  · obtain ⟨s0, s1, b0, b1, b2, b3, b4⟩ := HZ.out W' hSW
    first | (go_simp; done) | exact rfl | (go_simp; rfl) | (go_simp; omega)
  try simp only [Act.put, List.setIfInBounds_toArray, List.set_cons_zero, List.set_cons_succ]
  refine take_on (i := 1) (v := .int .i64 c) rfl (by kernel_rfl) (by kernel_rfl) (by kernel_rfl) (fun _ _ _ h => h) (by kernel_rfl) (fun W' hSW => ?_) (by assumption) ?_
  · obtain ⟨s0, s1, b0, b1, b2, b3, b4⟩ := HZ.out W' hSW
    first | (go_simp; done) | exact rfl | (go_simp; rfl) | (go_simp; omega)
  try simp only [Act.put, List.setIfInBounds_toArray, List.set_cons_zero, List.set_cons_succ]
  refine take_on (i := 2) (v := .pointer (some ⟨SB, 1, none⟩)) rfl (by kernel_rfl) (by kernel_rfl) (by kernel_rfl) (fun _ _ _ h => h) (by kernel_rfl) (fun W' hSW => ?_) (by assumption) ?_
  · obtain ⟨s0, s1, b0, b1, b2, b3, b4⟩ := HZ.out W' hSW
    first | (go_simp; done) | exact rfl | (go_simp; rfl) | (go_simp; omega)
  try simp only [Act.put, List.setIfInBounds_toArray, List.set_cons_zero, List.set_cons_succ]
  refine take_on (i := 3) (v := .slice (some ⟨g, o, none⟩) m cap) rfl (by kernel_rfl) (by kernel_rfl) (by kernel_rfl) (fun _ _ _ h => h) (by kernel_rfl) (fun W' hSW => ?_) (by assumption) ?_
  · obtain ⟨s0, s1, b0, b1, b2, b3, b4⟩ := HZ.out W' hSW
    first | (go_simp; done) | exact rfl | (go_simp; rfl) | (go_simp; omega)
  try simp only [Act.put, List.setIfInBounds_toArray, List.set_cons_zero, List.set_cons_succ]
  refine take_on (i := 4) (v := .slice (dR cap 1 (some ⟨g, o, none⟩)) (m - 1) (cap - 1)) rfl (by kernel_rfl) (by kernel_rfl) (by kernel_rfl) (fun _ _ _ h => h) (by kernel_rfl) (fun W' hSW => ?_) (by assumption) ?_
  · obtain ⟨s0, s1, b0, b1, b2, b3, b4⟩ := HZ.out W' hSW
    first | (go_simp; done) | exact rfl | (go_simp; rfl) | (go_simp; omega)
  try simp only [Act.put, List.setIfInBounds_toArray, List.set_cons_zero, List.set_cons_succ]
  refine take_on (i := 5) (v := .agg #[.int .i64 c, .slice (dR cap 1 (some ⟨g, o, none⟩)) (m - 1) (cap - 1)]) rfl (by kernel_rfl) (by kernel_rfl) (by kernel_rfl) (fun _ _ _ h => h) (by kernel_rfl) (fun W' hSW => ?_) (by assumption) ?_
  · obtain ⟨s0, s1, b0, b1, b2, b3, b4⟩ := HZ.out W' hSW
    first | (go_simp; done) | exact rfl | (go_simp; rfl) | (go_simp; omega)
  try simp only [Act.put, List.setIfInBounds_toArray, List.set_cons_zero, List.set_cons_succ]
  refine take_on (i := 6) (v := .pointer (some ⟨SB, 1, none⟩)) rfl (by kernel_rfl) (by kernel_rfl) (by kernel_rfl) (fun _ _ _ h => h) (by kernel_rfl) (fun W' hSW => ?_) (by assumption) ?_
  · obtain ⟨s0, s1, b0, b1, b2, b3, b4⟩ := HZ.out W' hSW
    first | (go_simp; done) | exact rfl | (go_simp; rfl) | (go_simp; omega)
  try simp only [Act.put, List.setIfInBounds_toArray, List.set_cons_zero, List.set_cons_succ]
  refine take_on (i := 7) (v := .slice (some ⟨g, o, none⟩) m cap) rfl (by kernel_rfl) (by kernel_rfl) (by kernel_rfl) (fun _ _ _ h => h) (by kernel_rfl) (fun W' hSW => ?_) (by assumption) ?_
  · obtain ⟨s0, s1, b0, b1, b2, b3, b4⟩ := HZ.out W' hSW
    first | (go_simp; done) | exact rfl | (go_simp; rfl) | (go_simp; omega)
  try simp only [Act.put, List.setIfInBounds_toArray, List.set_cons_zero, List.set_cons_succ]
  refine take_on (i := 8) (v := .pointer (some ⟨g, o, none⟩)) rfl (by kernel_rfl) (by kernel_rfl) (by kernel_rfl) (fun _ _ _ h => h) (by kernel_rfl) (fun W' hSW => ?_) (by assumption) ?_
  · obtain ⟨s0, s1, b0, b1, b2, b3, b4⟩ := HZ.out W' hSW
    first | (go_simp; done) | exact rfl | (go_simp; rfl) | (go_simp; omega)
  try simp only [Act.put, List.setIfInBounds_toArray, List.set_cons_zero, List.set_cons_succ]
  refine take_on (i := 9) (v := .agg #[.int .i64 x.key.time, .int .i64 x.key.source, .int .i64 x.key.seq, .int .i64 x.to, .int .i64 x.value]) rfl (by kernel_rfl) (by kernel_rfl) (by kernel_rfl) (fun _ _ _ h => h) (by kernel_rfl) (fun W' hSW => ?_) (by assumption) ?_
  · obtain ⟨s0, s1, b0, b1, b2, b3, b4⟩ := HZ.out W' hSW
    first | (go_simp; done) | exact rfl | (go_simp; rfl) | (go_simp; omega)
  try simp only [Act.put, List.setIfInBounds_toArray, List.set_cons_zero, List.set_cons_succ]
  refine take_call (i := 10) rfl (by kernel_rfl) (by kernel_rfl) (fun K hK => ?_)
  have t0 := thaw_in HR1.out 0
  have t1 := thaw_in HR1.out 1
  have u0 := cells_in HR1.out 0
  have u1 := cells_in HR1.out 1
  simp at u0 u1
  go_simp
  obtain ⟨W5, hW5⟩ : ∃ W, (W3.setCell ⟨SB + 1, 0, none⟩ (.int .i64 c)).setCell ⟨SB + 1, 1, none⟩ (.slice (dR cap 1 (some ⟨g, o, none⟩)) (m - 1) (cap - 1)) = W := ⟨_, rfl⟩
  have f5 : Fr0 (fun k => k = SB + 1 ∨ k = SB + 1 + 1) W3 W5 := by rw [← hW5]; exact ((Fr0.refl (fun k => k = SB + 1 ∨ k = SB + 1 + 1) W3).setCell (fun _ => .inl rfl) _).setCell (fun _ => .inl rfl) _
  have HQ1 := Lib.hid (show W5.heap[SB + 1]? = some (.cells #[.int .i64 c, .slice (dR cap 1 (some ⟨g, o, none⟩)) (m - 1) (cap - 1)] 50 (0, 0)) by rw [← hW5]; exact heap_set_cell (heap_set_cell HR1.out _) _)
  have HQ2 := Lib.hid ((Fr0.block (show Fr0 (fun k => k = SB + 1) W3 W5 by rw [← hW5]; exact ((Fr0.refl (fun k => k = SB + 1) W3).setCell (fun _ => rfl) _).setCell (fun _ => rfl) _) (SB + 1 + 1) (Array.getElem?_eq_some_iff.1 HR2.out).1 (fun e => by omega)).trans HR2.out)
  rw [hW5]
  refine hK.out _ _ f5.drew (fun hS => ?_)
  clear hK K hW5 t0 t1 u0 u1
  try simp only [Act.put, List.setIfInBounds_toArray, List.set_cons_zero, List.set_cons_succ]
  refine take_call (i := 11) rfl (by kernel_rfl) (by kernel_rfl) (fun K hK => ?_)
  have t0 := thaw_in HQ2.out 0
  have t1 := thaw_in HQ2.out 1
  have t2 := thaw_in HQ2.out 2
  have t3 := thaw_in HQ2.out 3
  have t4 := thaw_in HQ2.out 4
  have u0 := cells_in HQ2.out 0
  have u1 := cells_in HQ2.out 1
  have u2 := cells_in HQ2.out 2
  have u3 := cells_in HQ2.out 3
  have u4 := cells_in HQ2.out 4
  simp at u0 u1 u2 u3 u4
  go_simp
  obtain ⟨W6, hW6⟩ : ∃ W, ((((W5.setCell ⟨SB + 1 + 1, 0, none⟩ (.int .i64 (x).key.time)).setCell ⟨SB + 1 + 1, 1, none⟩ (.int .i64 (x).key.source)).setCell ⟨SB + 1 + 1, 2, none⟩ (.int .i64 (x).key.seq)).setCell ⟨SB + 1 + 1, 3, none⟩ (.int .i64 (x).to)).setCell ⟨SB + 1 + 1, 4, none⟩ (.int .i64 (x).value) = W := ⟨_, rfl⟩
  have f56 : Fr0 (fun k => k = SB + 1 + 1) W5 W6 := by rw [← hW6]; exact (((((Fr0.refl (fun k => k = SB + 1 + 1) W5).setCell (fun _ => rfl) _).setCell (fun _ => rfl) _).setCell (fun _ => rfl) _).setCell (fun _ => rfl) _).setCell (fun _ => rfl) _
  have f6 : Fr0 (fun k => k = SB + 1 ∨ k = SB + 1 + 1) W3 W6 := f5.trans (f56.mono (fun _ _ h => .inr h))
  have HQ1 := Lib.hid ((f56.block (SB + 1) (Array.getElem?_eq_some_iff.1 HQ1.out).1 (fun e => by omega)).trans HQ1.out)
  have HQ2 := Lib.hid (show W6.heap[SB + 1 + 1]? = some (.cells (cev (x)).toArray 28 (0, 0)) by rw [← hW6]; exact heap_set_cell (heap_set_cell (heap_set_cell (heap_set_cell (heap_set_cell HQ2.out _) _) _) _) _)
  rw [hW6]
  refine hK.out _ _ f6.drew (fun hS => ?_)
  clear hK K hW6 t0 t1 t2 t3 t4 u0 u1 u2 u3 u4
  try simp only [Act.put, List.setIfInBounds_toArray, List.set_cons_zero, List.set_cons_succ]
  refine take_on (i := 12) (v := .int .i64 0) rfl (by kernel_rfl) (by kernel_rfl) (by kernel_rfl) (fun _ _ _ h => h) (by kernel_rfl) (fun W' hSW => ?_) (by assumption) ?_
  · obtain ⟨s0, s1, b0, b1, b2, b3, b4⟩ := HZ.out W' hSW
    first | (go_simp; done) | exact rfl | (go_simp; rfl) | (go_simp; omega)
  try simp only [Act.put, List.setIfInBounds_toArray, List.set_cons_zero, List.set_cons_succ]
  refine wpAnyH_done (by kernel_rfl) ?_ _
  clear hHeld
  have r0 := cells_in HQ1.out 0
  have r1 := cells_in HQ1.out 1
  simp at r0 r1
  have e0 := cells_in HQ2.out 0
  have e1 := cells_in HQ2.out 1
  have e2 := cells_in HQ2.out 2
  have e3 := cells_in HQ2.out 3
  have e4 := cells_in HQ2.out 4
  simp [cev] at e0 e1 e2 e3 e4
  have HFF := Lib.hid (show Fr0 none' w W6.drew from (HF3.out.trans' f6 (fun k hk h => by have := HSB.out; rcases h with h | h <;> omega)).drew)
  clear f5 f56 f6
  go_wp2_with fail
  refine bodyPost_ret (v := .tuple #[.agg #[.int .i64 c, .slice (dR cap 1 (some ⟨g, o, none⟩)) (m - 1) (cap - 1)], .agg #[.int .i64 x.key.time, .int .i64 x.key.source, .int .i64 x.key.seq, .int .i64 x.to, .int .i64 x.value], .int .i64 0]) (by simp [results, Tryz.results48, go_sem, r0, r1, e0, e1, e2, e3, e4]) rfl ⟨_, rfl, ?_, HFF.out⟩
  exact RAt.rest (n := 1) H.out Hl.out HFF.out hc (by have := Hl.out; omega)
theorem at_find (p : Int × Int) (E : List Ev) : (atE p E = -1 ∧ findE p E = none) ∨ ∃ (k : Nat) (x : Ev), atE p E = k ∧ E[k]? = some x ∧ findE p E = some x ∧ x.name = p ∧ ∀ y ∈ E.take k, y.name ≠ p := by
  unfold atE
  rcases idxI_cases (fun y => y.name == p) E with ⟨h1, h2⟩ | ⟨k, h1, _, y, hy, hyn, hpre⟩
  · exact .inl ⟨h1, findE_none.2 (fun y hy => by simpa using h2 y hy)⟩
  · refine .inr ⟨k, y, h1, hy, ?_, by simpa using hyn, fun z hz => by simpa using hpre z hz⟩
    obtain ⟨hi, he⟩ := List.getElem?_eq_some_iff.1 hy
    have hl : E = E.take k ++ y :: E.drop (k + 1) := by rw [← he, ← List.drop_eq_getElem_cons hi, List.take_append_drop]
    unfold findE
    rw [hl, List.find?_append, List.find?_eq_none.2 (fun z hz => by have := hpre z hz; simpa using this), List.find?_cons, hyn]
    rfl
set_option maxRecDepth 100000 in
set_option maxHeartbeats 2000000 in
theorem rFind_any {w : World} {a : Option Addr} {m cap : Nat} (c : Int) (E : List Ev) (h : EsIn w a E) (hl : E.length = m) (hm : m ≤ 1000) (p : Int × Int) :
    Calls Tryz.prog 51 #[.agg #[.int .i64 c, .slice a m cap], .int .i64 p.1, .int .i64 p.2] w fun e w' => e = .returned (.tuple #[evV ((findE p E).getD ⟨⟨0, 0, 0⟩, 0, 0⟩), .bool (findE p E).isSome]) ∧ Fr0 none' w w' := by
  have H := Lib.hid h
  have Hl := Lib.hid hl
  have HE := Lib.hid (fun (W : World) (hf : Fr0 none' w W) => rat_any E (h.later hf) hl (cap := cap) (by omega) p.1 p.2)
  clear h hl
  rcases at_find p E with ⟨h1, h2⟩ | ⟨k, x, h1, hx, h2, hn, _⟩
  · rw [h2]
    have H1 := Lib.hid (show atE (p.1, p.2) E = -1 from h1)
    clear h1 h2
    simp only [Option.getD_none, Option.isSome_none, evV]
    go_enter Tryz.func51, Tryz.ntmps51
    go_wp2_with fail
    obtain ⟨SB, hSB⟩ : ∃ B, w.heap.size = B := ⟨_, rfl⟩
    obtain ⟨W1, hW1⟩ : ∃ W, w.alloc (.cells #[.int .i64 c, .slice a m cap] 50) = W := ⟨_, rfl⟩
    have HS := Lib.hid (show W1.heap[SB]? = some (.cells #[.int .i64 c, .slice a m cap] 50 (0, 0)) by rw [← hW1, ← hSB]; exact World.alloc_heap_new w _)
    have HF := Lib.hid (show Fr0 none' w W1 by rw [← hW1]; exact (Fr0.refl _ _).alloc _)
    rw [hW1]
    try rw [hSB]
    have HSB := Lib.hid hSB
    have HSz := Lib.hid (show W1.heap.size = SB + 1 by rw [← hW1, World.size_alloc, hSB])
    clear hW1 hSB
    have s0 := cells_in HS.out 0
    have s1 := cells_in HS.out 1
    simp at s0 s1
    go_wp2_with fail
    obtain ⟨W3, hW3⟩ : ∃ W, W1.alloc (.cells #[.int .i64 0, .int .i64 0, .int .i64 0, .int .i64 0, .int .i64 0] 28) = W := ⟨_, rfl⟩
    have h3 : Fr0 none' W1 W3 := by rw [← hW3]; exact (Fr0.refl _ _).alloc _
    have HR2 := Lib.hid (show W3.heap[SB + 1]? = some (.cells #[.int .i64 0, .int .i64 0, .int .i64 0, .int .i64 0, .int .i64 0] 28 (0, 0)) by rw [← hW3, ← HSz.out]; exact World.alloc_heap_new W1 _)
    have HS3 := Lib.hid ((h3.block SB (Array.getElem?_eq_some_iff.1 HS.out).1 id).trans HS.out)
    have HF3 := Lib.hid (HF.out.trans h3)
    rw [hW3]
    clear hW3 h3 s0 s1
    refine (HE.out _ HF3.out).mono ?_
    rintro e w3 ⟨rfl, rfl⟩
    rw [H1.out]
    have t0 := thaw_in HR2.out 0
    have t1 := thaw_in HR2.out 1
    have t2 := thaw_in HR2.out 2
    have t3 := thaw_in HR2.out 3
    have t4 := thaw_in HR2.out 4
    have e0 := cells_in HR2.out 0
    have e1 := cells_in HR2.out 1
    have e2 := cells_in HR2.out 2
    have e3 := cells_in HR2.out 3
    have e4 := cells_in HR2.out 4
    simp at e0 e1 e2 e3 e4
    go_wp2_with fail
    obtain ⟨W6, hW6⟩ : ∃ W, ((((W3.setCell ⟨SB + 1, 0, none⟩ (.int .i64 (0))).setCell ⟨SB + 1, 1, none⟩ (.int .i64 (0))).setCell ⟨SB + 1, 2, none⟩ (.int .i64 (0))).setCell ⟨SB + 1, 3, none⟩ (.int .i64 (0))).setCell ⟨SB + 1, 4, none⟩ (.int .i64 (0)) = W := ⟨_, rfl⟩
    have hg : SB + 1 < w.heap.size → none' (SB + 1) := fun e => by have := HSB.out; omega
    have f6 : Fr0 none' w W6 := by rw [← hW6]; exact ((((HF3.out.setCell hg _).setCell hg _).setCell hg _).setCell hg _).setCell hg _
    have hb6 : W6.heap[SB + 1]? = some (.cells #[.int .i64 (0), .int .i64 (0), .int .i64 (0), .int .i64 (0), .int .i64 (0)] 28 (0, 0)) := by rw [← hW6]; exact heap_set_cell (heap_set_cell (heap_set_cell (heap_set_cell (heap_set_cell HR2.out _) _) _) _) _
    rw [hW6]
    clear hW6 e0 e1 e2 e3 e4 t0 t1 t2 t3 t4
    have e0 := cells_in hb6 0
    have e1 := cells_in hb6 1
    have e2 := cells_in hb6 2
    have e3 := cells_in hb6 3
    have e4 := cells_in hb6 4
    simp at e0 e1 e2 e3 e4
    refine bodyPost_ret (v := .tuple #[.agg #[.int .i64 (0), .int .i64 (0), .int .i64 (0), .int .i64 (0), .int .i64 (0)], .bool false]) (by simp [results, Tryz.results51, go_sem, e0, e1, e2, e3, e4]) rfl ⟨rfl, f6⟩
  · rw [h2]
    have H1 := Lib.hid (show atE (p.1, p.2) E = k from h1)
    have Hx := Lib.hid hx
    clear h1 h2 hx hn
    simp only [Option.getD_some, Option.isSome_some, evV]
    go_enter Tryz.func51, Tryz.ntmps51
    go_wp2_with fail
    obtain ⟨SB, hSB⟩ : ∃ B, w.heap.size = B := ⟨_, rfl⟩
    obtain ⟨W1, hW1⟩ : ∃ W, w.alloc (.cells #[.int .i64 c, .slice a m cap] 50) = W := ⟨_, rfl⟩
    have HS := Lib.hid (show W1.heap[SB]? = some (.cells #[.int .i64 c, .slice a m cap] 50 (0, 0)) by rw [← hW1, ← hSB]; exact World.alloc_heap_new w _)
    have HF := Lib.hid (show Fr0 none' w W1 by rw [← hW1]; exact (Fr0.refl _ _).alloc _)
    rw [hW1]
    try rw [hSB]
    have HSB := Lib.hid hSB
    have HSz := Lib.hid (show W1.heap.size = SB + 1 by rw [← hW1, World.size_alloc, hSB])
    clear hW1 hSB
    have s0 := cells_in HS.out 0
    have s1 := cells_in HS.out 1
    simp at s0 s1
    go_wp2_with fail
    obtain ⟨W3, hW3⟩ : ∃ W, W1.alloc (.cells #[.int .i64 0, .int .i64 0, .int .i64 0, .int .i64 0, .int .i64 0] 28) = W := ⟨_, rfl⟩
    have h3 : Fr0 none' W1 W3 := by rw [← hW3]; exact (Fr0.refl _ _).alloc _
    have HR2 := Lib.hid (show W3.heap[SB + 1]? = some (.cells #[.int .i64 0, .int .i64 0, .int .i64 0, .int .i64 0, .int .i64 0] 28 (0, 0)) by rw [← hW3, ← HSz.out]; exact World.alloc_heap_new W1 _)
    have HS3 := Lib.hid ((h3.block SB (Array.getElem?_eq_some_iff.1 HS.out).1 id).trans HS.out)
    have HF3 := Lib.hid (HF.out.trans h3)
    rw [hW3]
    clear hW3 h3 s0 s1
    refine (HE.out _ HF3.out).mono ?_
    rintro e w3 ⟨rfl, rfl⟩
    rw [H1.out]
    have t0 := thaw_in HR2.out 0
    have t1 := thaw_in HR2.out 1
    have t2 := thaw_in HR2.out 2
    have t3 := thaw_in HR2.out 3
    have t4 := thaw_in HR2.out 4
    have e0 := cells_in HR2.out 0
    have e1 := cells_in HR2.out 1
    have e2 := cells_in HR2.out 2
    have e3 := cells_in HR2.out 3
    have e4 := cells_in HR2.out 4
    simp at e0 e1 e2 e3 e4
    obtain ⟨g, o, rfl, hat⟩ := H.out k x Hx.out
    obtain ⟨x0, x1, x2, x3, x4⟩ := hat.later HF3.out
    have hkm : k < m := by have := (List.getElem?_eq_some_iff.1 Hx.out).1; have := Hl.out; omega
    have k1 : (0 : Int) ≤ (k : Int) := by omega
    have k2 : (k : Int) < (m : Int) := by omega
    have s0 := cells_in HS3.out 0
    have s1 := cells_in HS3.out 1
    simp at s0 s1
    clear hat
    go_wp2_with fail
    obtain ⟨W6, hW6⟩ : ∃ W, ((((W3.setCell ⟨SB + 1, 0, none⟩ (.int .i64 (x.key.time))).setCell ⟨SB + 1, 1, none⟩ (.int .i64 (x.key.source))).setCell ⟨SB + 1, 2, none⟩ (.int .i64 (x.key.seq))).setCell ⟨SB + 1, 3, none⟩ (.int .i64 (x.to))).setCell ⟨SB + 1, 4, none⟩ (.int .i64 (x.value)) = W := ⟨_, rfl⟩
    have hg : SB + 1 < w.heap.size → none' (SB + 1) := fun e => by have := HSB.out; omega
    have f6 : Fr0 none' w W6 := by rw [← hW6]; exact ((((HF3.out.setCell hg _).setCell hg _).setCell hg _).setCell hg _).setCell hg _
    have hb6 : W6.heap[SB + 1]? = some (.cells #[.int .i64 (x.key.time), .int .i64 (x.key.source), .int .i64 (x.key.seq), .int .i64 (x.to), .int .i64 (x.value)] 28 (0, 0)) := by rw [← hW6]; exact heap_set_cell (heap_set_cell (heap_set_cell (heap_set_cell (heap_set_cell HR2.out _) _) _) _) _
    rw [hW6]
    clear hW6 e0 e1 e2 e3 e4 t0 t1 t2 t3 t4
    have e0 := cells_in hb6 0
    have e1 := cells_in hb6 1
    have e2 := cells_in hb6 2
    have e3 := cells_in hb6 3
    have e4 := cells_in hb6 4
    simp at e0 e1 e2 e3 e4
    refine bodyPost_ret (v := .tuple #[.agg #[.int .i64 (x.key.time), .int .i64 (x.key.source), .int .i64 (x.key.seq), .int .i64 (x.to), .int .i64 (x.value)], .bool true]) (by simp [results, Tryz.results51, go_sem, e0, e1, e2, e3, e4]) rfl ⟨rfl, f6⟩
end Go.Proofs.YtmcgipilopfgoaaGreat
