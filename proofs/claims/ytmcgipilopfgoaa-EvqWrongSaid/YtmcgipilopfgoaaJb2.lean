/-
  The queue of events: what each function of the package does, and what the laws make of it.
-/
import Derived.Test.YtmcgipilopfgoaaJb1
import Derived.WideKeyPair
import Derived.Test.YtmcgipilopfgoaaJa1
import Derived.Test.YtmcgipilopfgoaaJa2
import Derived.Test.YtmcgipilopfgoaaRows
import Derived.WalkKit
import Derived.ProofKit
import Derived.OpenShut
import Derived.ChangeMaps5
import Derived.Carry
import Derived.Deep.Slices
import Derived.Deep.Fields
import Derived.ChangeSame
import Derived.Lib.SmallJoins
set_option linter.unusedSimpArgs false
set_option linter.unusedVariables false

/-
  The keys of the maps: names as structs, names as arrays.
-/
namespace Go.Proofs.Ytmcgipilopfgoaa
open Go Go.RowKit Go.Maps Go.ChangeMaps
open Go.WideMaps (KeyLaw ArrKey)

theorem laid_out : laidOutB Try.prog = true := by kernel_rfl
theorem name_law : KeyLaw Try.prog 88 := deep_law_laid laid_out (m := 2) (by omega) (of_decide_eq_true (by kernel_rfl)) (by kernel_rfl) (by rw [Try.underlying88])
theorem pair_law : KeyLaw Try.prog 82 := deep_law_laid laid_out (m := 2) (by omega) (of_decide_eq_true (by kernel_rfl)) (by kernel_rfl) (by rw [Try.underlying82])
/-- A number that a register holds. -/
def I64 (a : Int) : Prop := -9223372036854775808 ≤ a ∧ a ≤ 9223372036854775807
theorem wf_i64 {a : Int} (h : I64 a) : (Lit.int .i64 a).wf = true := by
  obtain ⟨h1, h2⟩ := h
  simp [Lit.wf, show IntKind.i64.min = -9223372036854775808 from by decide, show IntKind.i64.max = 9223372036854775807 from by decide]
  omega
theorem types_size : ∃ m, (Try.prog).types.size = m + 1 := ⟨(Try.prog).types.size - 1, by kernel_rfl⟩
theorem name_key_is {nm : Int × Int} (h1 : I64 nm.1) (h2 : I64 nm.2) : ∃ kl, keyOf Try.prog 88 (nameV nm) = some kl := by
  have w1 := wf_i64 h1
  have w2 := wf_i64 h2
  refine ⟨.string (keyBytes [.int .i64 nm.1, .int .i64 nm.2]), ?_⟩
  have hkt : Try.prog.keyType 88 = true := by kernel_rfl
  have hc : Try.prog.cellsOf 88 = 2 := by kernel_rfl
  have hi : Try.prog.cellsOf 3 = 1 := by kernel_rfl
  obtain ⟨m, hm⟩ := types_size
  unfold keyOf nameV
  simp only [Try.underlying88]
  rw [if_pos (by simp [hkt, Value.formed, Try.underlying88, hc]), hm]
  unfold Program.keyLits
  simp only [Try.underlying88, Value.cells]
  rw [if_pos ⟨by rw [hc]; rfl, by kernel_rfl⟩]
  simp [hi, Program.keyLits, Try.underlying3, w1, w2]
theorem pair_key_is {nm : Int × Int} (h1 : I64 nm.1) (h2 : I64 nm.2) : ∃ kl, keyOf Try.prog 82 (nameV nm) = some kl :=
  ⟨_, WideMaps.keyOf_pair (e := 3) ⟨Try.underlying82, by kernel_rfl, by kernel_rfl, by kernel_rfl⟩ Try.underlying3 types_size (wf_i64 h1) (wf_i64 h2)⟩
theorem rightE_i64 {x : Ev} (h : RightE x) : I64 x.name.1 ∧ I64 x.name.2 := by
  obtain ⟨h1, _⟩ := h
  unfold RightK at h1
  unfold Ev.name I64
  simp only
  omega
section
variable {P : Program} {k t e : TypeId} {w w' : World} {mb : Nat} {X : List Pd} {L : Nat → Nat}
/-- A name more. -/
theorem NamesIs.put (h : NamesIs P k w mb X L) (K : Keyed P k) (ht : P.underlying t = some (.map k e)) (x : Pd) (hn : ∀ y ∈ X, y.1.name ≠ x.1.name) (hX : X.length < maxLen) {kl : Lit} (hk : keyOf P k (nameV x.1.name) = some kl) :
    ∃ w', (Instr.mapUpdate t (.map (some mb)) (nameV x.1.name) (refV x.2 (L x.2))).run P w = .ok () w' ∧ NamesIs P k w' mb (insX x X) L ∧ Fr0 (fun b => b = mb) w w' := by
  obtain ⟨D, ho, hs, h3⟩ := h
  have hD := ho.tidy K
  obtain ⟨w', hr, ho', hm⟩ := ho.store K ht hX hk (refR_refV x.2 (L x.2))
  obtain ⟨g1, g2⟩ := names_put hD K hs h3 x hn hk
  have hl : (insX x X).length = X.length + 1 := by rw [(insX_perm x X).length_eq, List.length_cons]
  have hg := hm.grown
  exact ⟨w', hr, ⟨D.put kl (refD x.2 (L x.2)), by rw [hl]; exact ho', g1, g2⟩, ⟨hg.os, hg.tape, hg.output, hg.size, fun i hi hs => hg.block i hi (fun e => hs (Option.some.inj e))⟩⟩
end
end Go.Proofs.Ytmcgipilopfgoaa

/-
  The queue: put.
-/
namespace Go.Proofs.Ytmcgipilopfgoaa
open Go Go.RowKit Go.ChangeMaps
attribute [local go_sem ↓] Go.wp_at_zero Go.wp_at_succ
attribute [local go_sem] Oper.semAt_some wide_fn wide_depth wide_fnR wide_depthR
variable {w : World} {qb sb pb hb ba eb mb n T : Nat} {hv : Value} {X : List Pd} {F : List Nat} {P : List Pl} {first : Int} {V : List Ev}

theorem flatEv_set5 {V : List Ev} {p : Nat} {y : Ev} (hy : V[p]? = some y) (t s q o v : Int) :
    (((((flatEv V).set (p * 5) (.int .i64 t)).set (p * 5 + 1) (.int .i64 s)).set (p * 5 + 2) (.int .i64 q)).set (p * 5 + 3) (.int .i64 o)).set (p * 5 + 4) (.int .i64 v) = flatEv (V.set p ⟨⟨t, s, q⟩, o, v⟩) := by
  have hl : p < V.length := (List.getElem?_eq_some_iff.1 hy).1
  have e0 := flat_set cev_len (x' := ⟨⟨t, y.key.source, y.key.seq⟩, y.to, y.value⟩) hy (j := 0) (by omega) (v := .int .i64 t) rfl
  have e1 := flat_set cev_len (P := V.set p ⟨⟨t, y.key.source, y.key.seq⟩, y.to, y.value⟩) (x' := ⟨⟨t, s, y.key.seq⟩, y.to, y.value⟩) (List.getElem?_set_self hl) (j := 1) (by omega) (v := .int .i64 s) rfl
  have e2 := flat_set cev_len (P := V.set p ⟨⟨t, s, y.key.seq⟩, y.to, y.value⟩) (x' := ⟨⟨t, s, q⟩, y.to, y.value⟩) (List.getElem?_set_self hl) (j := 2) (by omega) (v := .int .i64 q) rfl
  have e3 := flat_set cev_len (P := V.set p ⟨⟨t, s, q⟩, y.to, y.value⟩) (x' := ⟨⟨t, s, q⟩, o, y.value⟩) (List.getElem?_set_self hl) (j := 3) (by omega) (v := .int .i64 o) rfl
  have e4 := flat_set cev_len (P := V.set p ⟨⟨t, s, q⟩, o, y.value⟩) (x' := ⟨⟨t, s, q⟩, o, v⟩) (List.getElem?_set_self hl) (j := 4) (by omega) (v := .int .i64 v) rfl
  rw [List.set_set] at e1 e2 e3 e4
  unfold flatEv
  rw [Nat.add_zero] at e0
  rw [e0, e1, e2, e3, e4]
theorem ev_row5 {W : World} {eb p : Nat} {V : List Ev} {ty : TypeId} {y : Ev} (h : W.heap[eb]? = some (.cells (flatEv V).toArray ty (0, 0))) (hy : V[p]? = some y) (t s q o v : Int) :
    (((((W.setCell ⟨eb, p * 5, none⟩ (.int .i64 t)).setCell ⟨eb, p * 5 + 1, none⟩ (.int .i64 s)).setCell ⟨eb, p * 5 + 2, none⟩ (.int .i64 q)).setCell ⟨eb, p * 5 + 3, none⟩ (.int .i64 o)).setCell ⟨eb, p * 5 + 4, none⟩ (.int .i64 v)).heap[eb]? = some (.cells (flatEv (V.set p ⟨⟨t, s, q⟩, o, v⟩)).toArray ty (0, 0)) := by
  have h1 := heap_set_cell (o := p * 5) h (.int .i64 t)
  have h2 := heap_set_cell (o := p * 5 + 1) h1 (.int .i64 s)
  have h3 := heap_set_cell (o := p * 5 + 2) h2 (.int .i64 q)
  have h4 := heap_set_cell (o := p * 5 + 3) h3 (.int .i64 o)
  have h5 := heap_set_cell (o := p * 5 + 4) h4 (.int .i64 v)
  rw [h5]
  simp only [List.setIfInBounds_toArray]
  rw [flatEv_set5 hy]
/-- A queue's parts are apart. -/
structure Parts (qb sb pb hb ba eb mb : Nat) (hv : Value) : Prop where
  q : ¬ lfoot sb pb qb
  e : ¬ lfoot sb pb eb
  m : ¬ lfoot sb pb mb
  h : ∀ k, foot hb ba hv k → ¬ lfoot sb pb k
  eq : qb ≠ eb
  em : mb ≠ eb
  qm : qb ≠ mb
  he : ∀ k, foot hb ba hv k → k ≠ eb ∧ k ≠ mb ∧ k ≠ qb
theorem QIn.parts (h : QIn w qb sb pb hb ba eb mb hv n T X F P first V) : Parts qb sb pb hb ba eb mb hv := by
  have h1 := h.ne
  have h2 := h.nev
  simp only [List.nodup_cons, List.mem_cons, List.not_mem_nil, or_false, not_or, List.nodup_nil, and_true, not_false_eq_true] at h1 h2
  obtain ⟨⟨a1, a2, a3, a4, a5, a6⟩, ⟨b1, b2, b3, b4, b5⟩, ⟨c1, c2, c3, c4⟩, ⟨d1, d2, d3⟩, ⟨e1, e2⟩, f1⟩ := h1
  have key : ∀ k, foot hb ba hv k → (k ≠ qb ∧ k ≠ sb ∧ k ≠ pb ∧ k ≠ eb ∧ k ≠ mb) := by
    rintro k (rfl | rfl | hk)
    · exact ⟨fun e => a3 e.symm, fun e => b2 e.symm, fun e => c1 e.symm, d2, d3⟩
    · exact ⟨fun e => a4 e.symm, fun e => b3 e.symm, fun e => c2 e.symm, e1, e2⟩
    · obtain ⟨g1, g2, g3, g4, g5, g6, g7⟩ := h2 k hk
      exact ⟨g1, g2, g3, g6, g7⟩
  refine ⟨fun h => h.elim a1 a2, fun h => h.elim (fun e => b4 e.symm) (fun e => c3 e.symm), fun h => h.elim (fun e => b5 e.symm) (fun e => c4 e.symm), fun k hk => ?_, a5, fun e => f1 e.symm, a6, fun k hk => ?_⟩
  · obtain ⟨g1, g2, g3, g4, g5⟩ := key k hk
    exact fun h => h.elim g2 g3
  · obtain ⟨g1, g2, g3, g4, g5⟩ := key k hk
    exact ⟨g4, g5, g1⟩
set_option maxRecDepth 100000 in
theorem of_any (x : Ev) (w : World) : Calls Try.prog 44 #[evV x] w fun e w' => e = .returned (nameV x.name) ∧ Fr0 none' w w' := by
  unfold evV
  go_enter Try.func44, Try.ntmps44
  go_wp2_with fail
  obtain ⟨VV, hVV⟩ : ∃ VV, ((w.alloc (.cells #[.int .i64 x.key.time, .int .i64 x.key.source, .int .i64 x.key.seq, .int .i64 x.to, .int .i64 x.value] 34)).alloc (.cells #[.int .i64 x.key.source, .int .i64 x.key.seq] 88)) = VV := ⟨_, rfl⟩
  have hf : Fr0 none' w VV := by rw [← hVV]; exact ((Fr0.refl _ _).alloc _).alloc _
  have hb : VV.heap[w.heap.size + 1]? = some (.cells #[.int .i64 x.key.source, .int .i64 x.key.seq] 88 (0, 0)) := by
    rw [← hVV]
    have := World.alloc_heap_new (w.alloc (.cells #[.int .i64 x.key.time, .int .i64 x.key.source, .int .i64 x.key.seq, .int .i64 x.to, .int .i64 x.value] 34)) (.cells #[.int .i64 x.key.source, .int .i64 x.key.seq] 88)
    rwa [World.size_alloc] at this
  rw [hVV]
  have y0 := cells_in hb 0
  have y1 := cells_in hb 1
  simp at y0 y1
  exact bodyPost_ret (v := nameV x.name) (by simp [results, Try.results44, go_sem, y0, y1, nameV, Ev.name]) rfl ⟨rfl, hf⟩
set_option maxRecDepth 100000 in
set_option maxHeartbeats 1000000 in
theorem Qput_is {p : Nat} {x : Ev} (h : QIn w qb sb pb hb ba eb mb hv n T X (p :: F) P first V) (hr : RightE x) (hn : ∀ y ∈ X, y.1.name ≠ x.name) (hT : T < 4294967295) :
    Calls Try.prog 46 #[.pointer (some ⟨qb, 0, none⟩), evV x] w fun e w' => e = .returned (.tuple #[]) ∧ ∃ pl hv', P[p]? = some pl ∧ QIn w' qb sb pb hb ba eb mb hv' n (T + 1) (insX (x, p) X) F (P.set p ⟨pl.life + 1, true, -1⟩) pl.next (V.set p x) ∧ Fr0 (qfoot qb sb pb hb ba eb mb hv) w w' ∧ ∀ g, hv'.ownBlock = some g → hv.ownBlock = some g ∨ w.heap.size ≤ g := by
  obtain ⟨_, pl, hpl, _⟩ := h.ok.take x
  have H := Lib.hid h
  have Hpl := Lib.hid hpl
  have HS := Lib.hid (fun (W : World) (hf : Fr0 none' w W) => STake_is (h.sl.later hf) h.ok.chain (List.nodup_append.1 h.ok.nodup).1 hpl (fun p x hx => by have := h.ok.life p x hx; omega))
  have HC := Lib.hid (fun (W : World) (hf : Fr0 none' w W) => (h.fr0 hf (fun _ _ h => h)).c0)
  have c0 := HC.out (w.alloc (.cells #[.int .i64 x.key.time, .int .i64 x.key.source, .int .i64 x.key.seq, .int .i64 x.to, .int .i64 x.value] 34)) ((Fr0.refl _ _).alloc _)
  clear h hpl
  unfold evV
  go_enter Try.func46, Try.ntmps46
  go_wp2_with fail
  obtain ⟨q, hq⟩ : ∃ q, w.heap.size = q := ⟨_, rfl⟩
  obtain ⟨W1, hW1⟩ : ∃ W, w.alloc (.cells #[.int .i64 x.key.time, .int .i64 x.key.source, .int .i64 x.key.seq, .int .i64 x.to, .int .i64 x.value] 34) = W := ⟨_, rfl⟩
  have hb1 := Lib.hid (show W1.heap[q]? = some (.cells #[.int .i64 x.key.time, .int .i64 x.key.source, .int .i64 x.key.seq, .int .i64 x.to, .int .i64 x.value] 34 (0, 0)) by rw [← hW1, ← hq]; exact World.alloc_heap_new w _)
  have F1 := Lib.hid (show Fr0 none' w W1 by rw [← hW1]; exact (Fr0.refl _ _).alloc _)
  rw [hW1]
  try rw [hq]
  have Hq := Lib.hid hq
  clear hW1 hq
  refine (HS.out _ F1.out).mono ?_
  rintro e W2 ⟨rfl, hsl, hf2⟩
  have Hsl := Lib.hid hsl
  have F2 := Lib.hid hf2
  clear hsl hf2 c0
  go_wp2_with fail
  obtain ⟨q2, hq2⟩ : ∃ q2, W2.heap.size = q2 := ⟨_, rfl⟩
  obtain ⟨W3, hW3⟩ : ∃ W, W2.alloc (.cells #[.int .i64 p, .int .i64 ((pl.life : Int) + 1)] 86) = W := ⟨_, rfl⟩
  have hb2 := Lib.hid (show W3.heap[q2]? = some (.cells #[.int .i64 p, .int .i64 ((pl.life : Int) + 1)] 86 (0, 0)) by rw [← hW3, ← hq2]; exact World.alloc_heap_new W2 _)
  have F3 := Lib.hid (show Fr0 none' W2 W3 by rw [← hW3]; exact (Fr0.refl _ _).alloc _)
  rw [hW3]
  try rw [hq2]
  have Hq2 := Lib.hid hq2
  clear hW3 hq2
  have F13 := Lib.hid (F2.out.trans' F3.out (fun _ _ h => h.elim))
  have f3 : Fr0 (lfoot sb pb) w W3 := (F1.out.mono (fun _ _ h => h.elim)).trans (F2.out.trans' F3.out (fun _ _ h => h.elim))
  have HP := Lib.hid H.out.parts
  have hl := H.out.lt
  have hd3 := Lib.hid ((f3.block qb (hl _ (.inl rfl)) HP.out.q).trans H.out.hd)
  have ev3 := Lib.hid ((f3.block eb (hl _ (.inr (.inr (.inr (.inl rfl))))) HP.out.e).trans H.out.ev)
  have nm3 := Lib.hid (H.out.nm.fr0 f3 HP.out.m)
  have hp3 := Lib.hid (H.out.hp.fr0 f3 HP.out.h)
  have sl3 := Lib.hid (Hsl.out.later F3.out)
  have hpn : p < n := H.out.ok.flt List.mem_cons_self
  obtain ⟨y, hy⟩ : ∃ y, V[p]? = some y := ⟨_, List.getElem?_eq_getElem (by rw [H.out.vl]; exact hpn)⟩
  have HY := Lib.hid hy
  have hbx := (F13.out.block q (Array.getElem?_eq_some_iff.1 hb1.out).1 (fun h => by have := H.out.sl.lt q h; have := Hq.out; omega)).trans hb1.out
  have Hbx := Lib.hid hbx
  have F3w := Lib.hid f3
  have x0 := cells_in hbx 0
  have x1 := cells_in hbx 1
  have x2 := cells_in hbx 2
  have x3 := cells_in hbx 3
  have x4 := cells_in hbx 4
  simp at x0 x1 x2 x3 x4
  have r0 := cells_in hb2.out 0
  have r1 := cells_in hb2.out 1
  simp at r0 r1
  have c2 : W3.cell? ⟨qb, 2, none⟩ = some (.slice (some ⟨eb, 0, none⟩) n n) := by rw [cells_in hd3.out]; rfl
  have y0 : W3.cell? ⟨eb, p * 5, none⟩ = some (.int .i64 y.key.time) := by rw [cells_in ev3.out, List.getElem?_toArray]; exact flat_some cev_len hy (j := 0) (by omega) rfl
  have y1 : W3.cell? ⟨eb, p * 5 + 1, none⟩ = some (.int .i64 y.key.source) := by rw [cells_in ev3.out, List.getElem?_toArray]; exact flat_some cev_len hy (j := 1) (by omega) rfl
  have y2 : W3.cell? ⟨eb, p * 5 + 2, none⟩ = some (.int .i64 y.key.seq) := by rw [cells_in ev3.out, List.getElem?_toArray]; exact flat_some cev_len hy (j := 2) (by omega) rfl
  have y3 : W3.cell? ⟨eb, p * 5 + 3, none⟩ = some (.int .i64 y.to) := by rw [cells_in ev3.out, List.getElem?_toArray]; exact flat_some cev_len hy (j := 3) (by omega) rfl
  have y4 : W3.cell? ⟨eb, p * 5 + 4, none⟩ = some (.int .i64 y.value) := by rw [cells_in ev3.out, List.getElem?_toArray]; exact flat_some cev_len hy (j := 4) (by omega) rfl
  have t0 := thaw_in ev3.out (p * 5)
  have t1 := thaw_in ev3.out (p * 5 + 1)
  have t2 := thaw_in ev3.out (p * 5 + 2)
  have t3 := thaw_in ev3.out (p * 5 + 3)
  have t4 := thaw_in ev3.out (p * 5 + 4)
  have z1 : (0 : Int) ≤ (p : Int) := by omega
  have z2 : (p : Int) < (n : Int) := by omega
  clear f3 hl hpn hy hbx
  go_still_tail 8, (by kernel_rfl)
  change wpList _ _ _ _ _ W3.drew
  go_wp2_with fail
  obtain ⟨W4, hW4⟩ : ∃ W, (((((W3.setCell ⟨eb, p * 5, none⟩ (.int .i64 x.key.time)).setCell ⟨eb, p * 5 + 1, none⟩ (.int .i64 x.key.source)).setCell ⟨eb, p * 5 + 2, none⟩ (.int .i64 x.key.seq)).setCell ⟨eb, p * 5 + 3, none⟩ (.int .i64 x.to)).setCell ⟨eb, p * 5 + 4, none⟩ (.int .i64 x.value)) = W := ⟨_, rfl⟩
  rw [hW4]
  have ev4 := Lib.hid (show W4.heap[eb]? = some (.cells (flatEv (V.set p x)).toArray 34 (0, 0)) by rw [← hW4]; exact ev_row5 ev3.out HY.out _ _ _ _ _)
  have f4 : Fr0 (fun k => k = eb) W3 W4 := by rw [← hW4]; exact (((((Fr0.refl (fun k => k = eb) W3).setCell (fun _ => rfl) _).setCell (fun _ => rfl) _).setCell (fun _ => rfl) _).setCell (fun _ => rfl) _).setCell (fun _ => rfl) _
  have hqe : q ≠ eb := fun e => by have := H.out.lt eb (.inr (.inr (.inr (.inl rfl)))); have := Hq.out; omega
  have hq2e : q2 ≠ eb := fun e => by have := H.out.lt eb (.inr (.inr (.inr (.inl rfl)))); have := F1.out.size; have := F2.out.size; have := Hq2.out; omega
  have hd4 := Lib.hid ((f4.block qb (Array.getElem?_eq_some_iff.1 hd3.out).1 HP.out.eq).trans hd3.out)
  have nm4 := Lib.hid (nm3.out.fr0 f4 HP.out.em)
  have hp4 := Lib.hid (hp3.out.fr0 f4 (fun k hk => (HP.out.he k hk).1))
  have sl4 := Lib.hid (sl3.out.fr0 f4 (fun k hk e => HP.out.e (e ▸ hk)))
  have bx4 := Lib.hid ((f4.block q (Array.getElem?_eq_some_iff.1 Hbx.out).1 hqe).trans Hbx.out)
  have br4 := Lib.hid ((f4.block q2 (Array.getElem?_eq_some_iff.1 hb2.out).1 hq2e).trans hb2.out)
  have F4 := Lib.hid f4
  clear hW4 f4 x0 x1 x2 x3 x4 r0 r1 c2 y0 y1 y2 y3 y4 t0 t1 t2 t3 t4 z1 z2 hqe hq2e
  have Skey := Lib.hid (show ∀ W', (∀ k, k = qb ∨ k = q ∨ k = q2 → W'.heap[k]? = W4.heap[k]?) → W'.cell? ⟨qb, 3, none⟩ = some (.map (some mb)) ∧ EAt W' q 0 x ∧ W'.cell? ⟨q2, 0, none⟩ = some (.int .i64 p) ∧ W'.cell? ⟨q2, 1, none⟩ = some (.int .i64 ((pl.life : Int) + 1)) from fun W' hf => by
    have g1 := (hf qb (.inl rfl)).trans hd4.out
    have g2 := (hf q (.inr (.inl rfl))).trans bx4.out
    have g3 := (hf q2 (.inr (.inr rfl))).trans br4.out
    refine ⟨by rw [cells_in g1]; rfl, ⟨?_, ?_, ?_, ?_, ?_⟩, by rw [cells_in g3]; rfl, by rw [cells_in g3]; rfl⟩ <;> rw [cells_in g2] <;> rfl)
  refine wp_region_held_drew (S := fun W' => W'.cell? ⟨qb, 3, none⟩ = some (.map (some mb)) ∧ EAt W' q 0 x ∧ W'.cell? ⟨q2, 0, none⟩ = some (.int .i64 p) ∧ W'.cell? ⟨q2, 1, none⟩ = some (.int .i64 ((pl.life : Int) + 1))) (by kernel_rfl) (Skey.out _ (fun _ _ => rfl)) (fun hHeld => ?_)
  refine take_on (i := 0) (v := .pointer (some ⟨qb, 0, none⟩)) rfl (by kernel_rfl) (by kernel_rfl) (by kernel_rfl) (fun _ _ _ h => h) (by kernel_rfl) (fun W' hSW => ?_) (by assumption) ?_
  · (try dsimp only at hSW)
    first | (go_simp; done) | (obtain ⟨s0, ⟨s1, s2, s3, s4, s5⟩, s6, s7⟩ := hSW; (try simp only [Nat.zero_add] at s1 s2 s3 s4 s5); (try simp only [evV]); go_simp; done) | exact rfl | (go_simp; rfl) | (go_simp; omega)
  try simp only [Act.put, List.setIfInBounds_toArray, List.set_cons_zero, List.set_cons_succ]
  refine take_on (i := 1) (v := .pointer (some ⟨qb, 0, none⟩)) rfl (by kernel_rfl) (by kernel_rfl) (by kernel_rfl) (fun _ _ _ h => h) (by kernel_rfl) (fun W' hSW => ?_) (by assumption) ?_
  · (try dsimp only at hSW)
    first | (go_simp; done) | (obtain ⟨s0, ⟨s1, s2, s3, s4, s5⟩, s6, s7⟩ := hSW; (try simp only [Nat.zero_add] at s1 s2 s3 s4 s5); (try simp only [evV]); go_simp; done) | exact rfl | (go_simp; rfl) | (go_simp; omega)
  try simp only [Act.put, List.setIfInBounds_toArray, List.set_cons_zero, List.set_cons_succ]
  refine take_on (i := 2) (v := .pointer (some ⟨qb, 3, none⟩)) rfl (by kernel_rfl) (by kernel_rfl) (by kernel_rfl) (fun _ _ _ h => h) (by kernel_rfl) (fun W' hSW => ?_) (by assumption) ?_
  · (try dsimp only at hSW)
    first | (go_simp; done) | (obtain ⟨s0, ⟨s1, s2, s3, s4, s5⟩, s6, s7⟩ := hSW; (try simp only [Nat.zero_add] at s1 s2 s3 s4 s5); (try simp only [evV]); go_simp; done) | exact rfl | (go_simp; rfl) | (go_simp; omega)
  try simp only [Act.put, List.setIfInBounds_toArray, List.set_cons_zero, List.set_cons_succ]
  refine take_on (i := 3) (v := .map (some mb)) rfl (by kernel_rfl) (by kernel_rfl) (by kernel_rfl) (fun _ _ _ h => h) (by kernel_rfl) (fun W' hSW => ?_) (by assumption) ?_
  · (try dsimp only at hSW)
    first | (go_simp; done) | (obtain ⟨s0, ⟨s1, s2, s3, s4, s5⟩, s6, s7⟩ := hSW; (try simp only [Nat.zero_add] at s1 s2 s3 s4 s5); (try simp only [evV]); go_simp; done) | exact rfl | (go_simp; rfl) | (go_simp; omega)
  try simp only [Act.put, List.setIfInBounds_toArray, List.set_cons_zero, List.set_cons_succ]
  refine take_on (i := 4) (v := evV x) rfl (by kernel_rfl) (by kernel_rfl) (by kernel_rfl) (fun _ _ _ h => h) (by kernel_rfl) (fun W' hSW => ?_) (by assumption) ?_
  · (try dsimp only at hSW)
    first | (go_simp; done) | (obtain ⟨s0, ⟨s1, s2, s3, s4, s5⟩, s6, s7⟩ := hSW; (try simp only [Nat.zero_add] at s1 s2 s3 s4 s5); (try simp only [evV]); go_simp; done) | exact rfl | (go_simp; rfl) | (go_simp; omega)
  try simp only [Act.put, List.setIfInBounds_toArray, List.set_cons_zero, List.set_cons_succ]
  refine take_on (i := 6) (v := .agg #[.int .i64 p, .int .i64 ((pl.life : Int) + 1)]) rfl (by kernel_rfl) (by kernel_rfl) (by kernel_rfl) (fun _ _ _ h => h) (by kernel_rfl) (fun W' hSW => ?_) (by assumption) ?_
  · (try dsimp only at hSW)
    first | (go_simp; done) | (obtain ⟨s0, ⟨s1, s2, s3, s4, s5⟩, s6, s7⟩ := hSW; (try simp only [Nat.zero_add] at s1 s2 s3 s4 s5); (try simp only [evV]); go_simp; done) | exact rfl | (go_simp; rfl) | (go_simp; omega)
  try simp only [Act.put, List.setIfInBounds_toArray, List.set_cons_zero, List.set_cons_succ]
  refine take_call (i := 5) rfl (by kernel_rfl) (by kernel_rfl) (fun K hK => ?_)
  go_simp
  refine (of_any x _).mono ?_
  rintro e w5 ⟨rfl, hf5⟩
  have hlt4 : ∀ k, k = qb ∨ k = q ∨ k = q2 → k < W4.heap.size := fun k hk => by
    rcases hk with rfl | rfl | rfl
    · exact (Array.getElem?_eq_some_iff.1 hd4.out).1
    · exact (Array.getElem?_eq_some_iff.1 bx4.out).1
    · exact (Array.getElem?_eq_some_iff.1 br4.out).1
  have f45 : Fr0 none' W4 w5 := (Fr0.refl none' W4).drew.drew.trans hf5
  have F45 := Lib.hid f45
  refine hK.out _ _ (Skey.out _ (fun k hk => f45.block k (hlt4 k hk) id)) (fun hHeld2 => ?_)
  clear hK K hf5
  try simp only [Act.put, List.setIfInBounds_toArray, List.set_cons_zero, List.set_cons_succ]
  have hnp : ∀ y ∈ X, y.2 ≠ p := fun y hy e => (List.nodup_cons.1 H.out.ok.nodup).1 (List.mem_append_right _ (List.mem_map.2 ⟨y, hy, e⟩))
  have hpl' : (P.set p ⟨pl.life + 1, true, -1⟩)[p]? = some ⟨pl.life + 1, true, -1⟩ := List.getElem?_set_self (List.getElem?_eq_some_iff.1 Hpl.out).1
  have nm5 : NamesIs Try.prog 88 w5 mb X (lifeP (P.set p ⟨pl.life + 1, true, -1⟩)) := (nm4.out.fr0 f45 id).congr (fun y hy => by
    unfold lifeP
    rw [List.getElem?_set_ne (Ne.symm (hnp y hy))])
  obtain ⟨hi1, hi2⟩ := rightE_i64 hr
  obtain ⟨kl, hkl⟩ := name_key_is hi1 hi2
  obtain ⟨w6, hrun, nm6, f56⟩ := nm5.put (Go.Maps.Keyed.of_law name_law) Try.underlying75 (x, p) hn (by have := H.out.ok.count; have := H.out.n256; unfold maxLen; omega) hkl
  rw [lifeP_at hpl'] at hrun
  have hrun2 : (Instr.mapUpdate 75 (.map (some mb)) (nameV x.name) (.agg #[.int .i64 p, .int .i64 ((pl.life : Int) + 1)])).run Try.prog w5 = .ok () w6 := hrun
  have Nm6 := Lib.hid nm6
  have F56 := Lib.hid f56
  have hk6 : ∀ k, k = qb ∨ k = q ∨ k = q2 → w6.heap[k]? = W4.heap[k]? := fun k hk => by
    refine (f56.block k (Nat.lt_of_lt_of_le (hlt4 k hk) f45.size) (fun e => ?_)).trans (f45.block k (hlt4 k hk) id)
    have h1 := H.out.lt mb (.inr (.inr (.inr (.inr (.inl rfl)))))
    have h2 := Hq.out
    have h3 := Hq2.out
    have h4 := F1.out.size
    have h5 := F2.out.size
    rcases hk with rfl | rfl | rfl
    · exact HP.out.qm e
    · omega
    · omega
  refine take_call (i := 7) rfl (by kernel_rfl) (by kernel_rfl) (fun K hK => ?_)
  clear hrun nm6 f56 nm5 hnp hpl' hkl hi1 hi2 f45
  go_simp
  refine hK.out _ _ (Skey.out _ hk6) (fun hHeld3 => ?_)
  clear hK K hrun2
  try simp only [Act.put, List.setIfInBounds_toArray, List.set_cons_zero, List.set_cons_succ]
  refine wpAnyH_done (by kernel_rfl) ?_ _
  obtain ⟨_, ⟨x0, x1, x2, x3, x4⟩, r0, r1⟩ := hHeld3
  have Hk6 := Lib.hid hk6
  clear hHeld hHeld2 hk6
  simp only [Nat.zero_add] at x0 x1 x2 x3 x4
  go_wp2_with fail
  have hd6 := (Hk6.out qb (.inl rfl)).trans hd4.out
  have c1 : w6.cell? ⟨qb, 1, none⟩ = some (.pointer (some ⟨hb, 0, none⟩)) := by rw [cells_in hd6]; rfl
  have hnm : ∀ k, k = mb → ¬ foot hb ba hv k := fun k e hk => (HP.out.he k hk).2.1 e
  have hp6 : HeapIs w6.drew hb ba hv n (X.map entX) := ((hp4.out.fr0 F45.out (fun _ _ h => h)).fr0 F56.out (fun k hk e => hnm k e hk)).later0 (Fr0.refl none' w6).drew
  have hpn : p < n := H.out.ok.flt List.mem_cons_self
  have her : errP n (X.map entX) (p : Int) = 6 := by
    unfold errP
    rw [if_neg (by omega), if_pos]
    rw [look_none]
    intro z hz
    obtain ⟨y, hy, rfl⟩ := List.mem_map.1 hz
    show y.2 ≠ _
    rw [Int.toNat_natCast]
    exact fun e => (List.nodup_cons.1 H.out.ok.nodup).1 (List.mem_append_right _ (List.mem_map.2 ⟨y, hy, e⟩))
  have HPut := Put_is hp6 (p : Int) x.key
  rw [show putL n (X.map entX) (p : Int) x.key = insL ⟨x.key, p⟩ (X.map entX) by unfold putL; rw [if_pos her, Int.toNat_natCast], show putE n (X.map entX) (p : Int) = 0 by unfold putE; rw [her]; rfl] at HPut
  have HPut := Lib.hid HPut
  clear hd6 hp6 her hpn
  go_still_tail 8, (by kernel_rfl)
  change wpList _ _ _ _ _ w6.drew
  go_wp2_with fail
  refine HPut.out.mono ?_
  rintro e w7 ⟨rfl, hv', hp7, hs7⟩
  have f7 := hs7.fr.to0
  have f67 : Fr0 (foot hb ba hv) w6 w7 := (Fr0.refl (foot hb ba hv) w6).drew.trans f7
  have qn : ¬ foot hb ba hv qb := fun hk => (HP.out.he _ hk).2.2 rfl
  have en : ¬ foot hb ba hv eb := fun hk => (HP.out.he _ hk).1 rfl
  have mn : ¬ foot hb ba hv mb := fun hk => (HP.out.he _ hk).2.1 rfl
  have q6 := (Hk6.out qb (.inl rfl)).trans hd4.out
  have q7 : w7.heap[qb]? = w.heap[qb]? := (f67.block qb (Array.getElem?_eq_some_iff.1 q6).1 qn).trans (q6.trans H.out.hd.symm)
  have e6 : w6.heap[eb]? = some (.cells (flatEv (V.set p x)).toArray 34 (0, 0)) := (F56.out.block eb (Nat.lt_of_lt_of_le (Array.getElem?_eq_some_iff.1 ev4.out).1 F45.out.size) (fun e => HP.out.em e.symm)).trans ((F45.out.block eb (Array.getElem?_eq_some_iff.1 ev4.out).1 id).trans ev4.out)
  have e7 := (f67.block eb (Array.getElem?_eq_some_iff.1 e6).1 en).trans e6
  have nm7 := Nm6.out.fr0 f67 mn
  have sl7 := ((sl4.out.later F45.out).fr0 F56.out (fun k hk e => HP.out.m (e ▸ hk))).fr0 f67 (fun k hk hf => HP.out.h k hf hk)
  have hsz : w.heap.size ≤ w6.heap.size := Nat.le_trans F3w.out.size (Nat.le_trans F4.out.size (Nat.le_trans F45.out.size F56.out.size))
  have own7 : ∀ g, hv'.ownBlock = some g → hv.ownBlock = some g ∨ w.heap.size ≤ g := fun g hg => (hs7.own g hg).imp id (fun h => Nat.le_trans hsz h)
  have hfin := Lib.hid (H.out.added (W := w7) (hv' := hv') Hpl.out hr hn q7 sl7 hp7 e7 nm7 own7)
  have hfr := Lib.hid (show Fr0 (qfoot qb sb pb hb ba eb mb hv) w w7 from ((((F3w.out.mono (fun k _ hk => by rcases hk with rfl | rfl; exact .inr (.inl rfl); exact .inr (.inr (.inl rfl)))).trans (F4.out.mono (fun k _ hk => .inr (.inr (.inr (.inl hk)))))).trans (F45.out.mono (fun _ _ h => h.elim))).trans (F56.out.mono (fun k _ hk => .inr (.inr (.inr (.inr (.inl hk))))))).trans (f67.mono (fun k _ hk => .inr (.inr (.inr (.inr (.inr hk)))))))
  have Own7 := Lib.hid own7
  clear q6 q7 e6 e7 nm7 sl7 hsz own7 f67 f7 qn en mn hp7 hs7
  go_wp2_with fail
  go_end0
  exact ⟨rfl, pl, hv', Hpl.out, hfin.out, hfr.out, Own7.out⟩
end Go.Proofs.Ytmcgipilopfgoaa

/-
  The queue: remove.
-/
namespace Go.Proofs.Ytmcgipilopfgoaa
open Go Go.RowKit Go.ChangeMaps
attribute [local go_sem ↓] Go.wp_at_zero Go.wp_at_succ
attribute [local go_sem] Oper.semAt_some wide_fn wide_depth wide_fnR wide_depthR
variable {w : World} {qb sb pb hb ba eb mb n T : Nat} {hv : Value} {X : List Pd} {F : List Nat} {P : List Pl} {first : Int} {V : List Ev}

set_option maxRecDepth 100000 in
set_option maxHeartbeats 1000000 in
theorem Qremove_is {y : Pd} {pl : Pl} (h : QIn w qb sb pb hb ba eb mb hv n T X F P first V) (hy : y ∈ X) (hpl : P[y.2]? = some pl) (hT : T < 4294967296) :
    Calls Try.prog 43 #[.pointer (some ⟨qb, 0, none⟩), .agg #[.int .i64 y.2, .int .i64 pl.life]] w fun e w' => e = .returned (evV y.1) ∧ ∃ hv', QIn w' qb sb pb hb ba eb mb hv' n T (delX y.2 X) (y.2 :: F) (P.set y.2 ⟨pl.life, false, first⟩) y.2 (V.set y.2 noEv) ∧ Fr0 (qfoot qb sb pb hb ba eb mb hv) w w' ∧ ∀ g, hv'.ownBlock = some g → hv.ownBlock = some g ∨ w.heap.size ≤ g := by
  obtain ⟨x, p⟩ := y
  have hlife : pl.life < 4294967296 := Nat.lt_of_le_of_lt (h.ok.life p pl hpl) hT
  have htk : pl.taken = true := by
    obtain ⟨z, h1, h2⟩ := h.ok.tk _ hy
    rw [hpl] at h1
    cases h1
    exact h2
  have hvx := h.vx _ hy
  have H := Lib.hid h
  have Hy := Lib.hid hy
  have Hpl := Lib.hid hpl
  have Htk := Lib.hid htk
  have Hlf := Lib.hid hlife
  have Hvx := Lib.hid hvx
  have HP := Lib.hid h.parts
  have hpn : p < n := h.ok.xlt hy
  have Hpn := Lib.hid hpn
  simp only at hpl hvx ⊢
  clear h hy hpl htk hvx hlife
  unfold evV
  go_enter Try.func43, Try.ntmps43
  go_wp2_with fail
  obtain ⟨q2, hq2⟩ : ∃ q2, w.heap.size = q2 := ⟨_, rfl⟩
  obtain ⟨W1, hW1⟩ : ∃ W, ((w.alloc (.cells #[.int .i64 p, .int .i64 pl.life] 86)).alloc (.cells #[.int .i64 0, .int .i64 0, .int .i64 0, .int .i64 0, .int .i64 0] 34)) = W := ⟨_, rfl⟩
  have br1 := Lib.hid (show W1.heap[q2]? = some (.cells #[.int .i64 p, .int .i64 pl.life] 86 (0, 0)) by rw [← hW1, ← hq2]; exact (Below.heap_alloc _ _ _ (by simp)).trans (World.alloc_heap_new w _))
  have bo1 := Lib.hid (show W1.heap[q2 + 1]? = some (.cells #[.int .i64 0, .int .i64 0, .int .i64 0, .int .i64 0, .int .i64 0] 34 (0, 0)) by rw [← hW1, ← hq2]; have := World.alloc_heap_new (w.alloc (.cells #[.int .i64 p, .int .i64 pl.life] 86)) (.cells #[.int .i64 0, .int .i64 0, .int .i64 0, .int .i64 0, .int .i64 0] 34); rwa [World.size_alloc] at this)
  have F1 := Lib.hid (show Fr0 none' w W1 by rw [← hW1]; exact ((Fr0.refl _ _).alloc _).alloc _)
  have Hz1 := Lib.hid (show W1.heap.size = q2 + 2 by rw [← hW1, ← hq2]; simp)
  rw [hW1]
  try rw [hq2]
  have Hq2 := Lib.hid hq2
  clear hW1 hq2
  have h1 := H.out.fr0 F1.out (fun _ _ h => h)
  have H1 := Lib.hid h1
  have Skey := Lib.hid (show ∀ W', (∀ k, k = qb ∨ k = eb ∨ k = q2 → W'.heap[k]? = W1.heap[k]?) → W'.cell? ⟨qb, 2, none⟩ = some (.slice (some ⟨eb, 0, none⟩) n n) ∧ EAt W' eb (p * 5) x ∧ W'.cell? ⟨q2, 0, none⟩ = some (.int .i64 p) from fun W' hf => by
    refine ⟨?_, ?_, ?_⟩
    · rw [cells_in ((hf qb (.inl rfl)).trans H1.out.hd)]; rfl
    · obtain ⟨e0, e1, e2, e3, e4⟩ := H1.out.event Hvx.out
      have hb' := hf eb (.inr (.inl rfl))
      exact ⟨(World.cell?_of_block (w := W1) hb').trans e0, (World.cell?_of_block (w := W1) hb').trans e1, (World.cell?_of_block (w := W1) hb').trans e2, (World.cell?_of_block (w := W1) hb').trans e3, (World.cell?_of_block (w := W1) hb').trans e4⟩
    · rw [cells_in ((hf q2 (.inr (.inr rfl))).trans br1.out)]; rfl)
  have hlt1 : ∀ k, k = qb ∨ k = eb ∨ k = q2 → k < W1.heap.size := fun k hk => by
    rcases hk with rfl | rfl | rfl
    · exact h1.lt _ (.inl rfl)
    · exact h1.lt _ (.inr (.inr (.inr (.inl rfl))))
    · exact (Array.getElem?_eq_some_iff.1 br1.out).1
  have Hlt1 := Lib.hid hlt1
  have z1 : (0 : Int) ≤ (p : Int) := by omega
  have z2 : (p : Int) < (n : Int) := by omega
  clear h1 hpn hlt1
  refine wp_region_held_drew (S := fun W' => W'.cell? ⟨qb, 2, none⟩ = some (.slice (some ⟨eb, 0, none⟩) n n) ∧ EAt W' eb (p * 5) x ∧ W'.cell? ⟨q2, 0, none⟩ = some (.int .i64 p)) (by kernel_rfl) (Skey.out _ (fun _ _ => rfl)) (fun hHeld => ?_)
  refine take_on (i := 0) (v := .pointer (some ⟨qb, 0, none⟩)) rfl (by kernel_rfl) (by kernel_rfl) (by kernel_rfl) (fun _ _ _ h => h) (by kernel_rfl) (fun W' hSW => ?_) (by assumption) ?_
  · (try dsimp only at hSW)
    first | (go_simp; done) | (obtain ⟨s0, ⟨s1, s2, s3, s4, s5⟩, s6⟩ := hSW; (try simp only [Nat.zero_add] at s1 s2 s3 s4 s5); (try simp only [evV]); go_simp; done) | exact rfl | (go_simp; rfl) | (go_simp; omega)
  try simp only [Act.put, List.setIfInBounds_toArray, List.set_cons_zero, List.set_cons_succ]
  refine take_on (i := 1) (v := .pointer (some ⟨qb, 0, none⟩)) rfl (by kernel_rfl) (by kernel_rfl) (by kernel_rfl) (fun _ _ _ h => h) (by kernel_rfl) (fun W' hSW => ?_) (by assumption) ?_
  · (try dsimp only at hSW)
    first | (go_simp; done) | (obtain ⟨s0, ⟨s1, s2, s3, s4, s5⟩, s6⟩ := hSW; (try simp only [Nat.zero_add] at s1 s2 s3 s4 s5); (try simp only [evV]); go_simp; done) | exact rfl | (go_simp; rfl) | (go_simp; omega)
  try simp only [Act.put, List.setIfInBounds_toArray, List.set_cons_zero, List.set_cons_succ]
  refine take_on (i := 2) (v := .pointer (some ⟨qb, 2, none⟩)) rfl (by kernel_rfl) (by kernel_rfl) (by kernel_rfl) (fun _ _ _ h => h) (by kernel_rfl) (fun W' hSW => ?_) (by assumption) ?_
  · (try dsimp only at hSW)
    first | (go_simp; done) | (obtain ⟨s0, ⟨s1, s2, s3, s4, s5⟩, s6⟩ := hSW; (try simp only [Nat.zero_add] at s1 s2 s3 s4 s5); (try simp only [evV]); go_simp; done) | exact rfl | (go_simp; rfl) | (go_simp; omega)
  try simp only [Act.put, List.setIfInBounds_toArray, List.set_cons_zero, List.set_cons_succ]
  refine take_on (i := 3) (v := .slice (some ⟨eb, 0, none⟩) n n) rfl (by kernel_rfl) (by kernel_rfl) (by kernel_rfl) (fun _ _ _ h => h) (by kernel_rfl) (fun W' hSW => ?_) (by assumption) ?_
  · (try dsimp only at hSW)
    first | (go_simp; done) | (obtain ⟨s0, ⟨s1, s2, s3, s4, s5⟩, s6⟩ := hSW; (try simp only [Nat.zero_add] at s1 s2 s3 s4 s5); (try simp only [evV]); go_simp; done) | exact rfl | (go_simp; rfl) | (go_simp; omega)
  try simp only [Act.put, List.setIfInBounds_toArray, List.set_cons_zero, List.set_cons_succ]
  refine take_on (i := 4) (v := .pointer (some ⟨q2, 0, none⟩)) rfl (by kernel_rfl) (by kernel_rfl) (by kernel_rfl) (fun _ _ _ h => h) (by kernel_rfl) (fun W' hSW => ?_) (by assumption) ?_
  · (try dsimp only at hSW)
    first | (go_simp; done) | (obtain ⟨s0, ⟨s1, s2, s3, s4, s5⟩, s6⟩ := hSW; (try simp only [Nat.zero_add] at s1 s2 s3 s4 s5); (try simp only [evV]); go_simp; done) | exact rfl | (go_simp; rfl) | (go_simp; omega)
  try simp only [Act.put, List.setIfInBounds_toArray, List.set_cons_zero, List.set_cons_succ]
  refine take_on (i := 5) (v := .int .i64 p) rfl (by kernel_rfl) (by kernel_rfl) (by kernel_rfl) (fun _ _ _ h => h) (by kernel_rfl) (fun W' hSW => ?_) (by assumption) ?_
  · (try dsimp only at hSW)
    first | (go_simp; done) | (obtain ⟨s0, ⟨s1, s2, s3, s4, s5⟩, s6⟩ := hSW; (try simp only [Nat.zero_add] at s1 s2 s3 s4 s5); (try simp only [evV]); go_simp; done) | exact rfl | (go_simp; rfl) | (go_simp; omega)
  try simp only [Act.put, List.setIfInBounds_toArray, List.set_cons_zero, List.set_cons_succ]
  refine take_on (i := 6) (v := .pointer (some ⟨eb, p * 5, none⟩)) rfl (by kernel_rfl) (by kernel_rfl) (by kernel_rfl) (fun _ _ _ h => h) (by kernel_rfl) (fun W' hSW => ?_) (by assumption) ?_
  · (try dsimp only at hSW)
    first | (go_simp; done) | (obtain ⟨s0, ⟨s1, s2, s3, s4, s5⟩, s6⟩ := hSW; (try simp only [Nat.zero_add] at s1 s2 s3 s4 s5); (try simp only [evV]); go_simp; done) | exact rfl | (go_simp; rfl) | (go_simp; omega)
  try simp only [Act.put, List.setIfInBounds_toArray, List.set_cons_zero, List.set_cons_succ]
  refine take_on (i := 7) (v := evV x) rfl (by kernel_rfl) (by kernel_rfl) (by kernel_rfl) (fun _ _ _ h => h) (by kernel_rfl) (fun W' hSW => ?_) (by assumption) ?_
  · (try dsimp only at hSW)
    first | (go_simp; done) | (obtain ⟨s0, ⟨s1, s2, s3, s4, s5⟩, s6⟩ := hSW; (try simp only [Nat.zero_add] at s1 s2 s3 s4 s5); (try simp only [evV]); go_simp; done) | exact rfl | (go_simp; rfl) | (go_simp; omega)
  try simp only [Act.put, List.setIfInBounds_toArray, List.set_cons_zero, List.set_cons_succ]
  refine take_call (i := 8) rfl (by kernel_rfl) (by kernel_rfl) (fun K hK => ?_)
  go_simp
  refine hK.out _ _ (Skey.out _ (fun k hk => Below.heap_alloc W1 _ k (Hlt1.out k hk))) (fun hHeld2 => ?_)
  clear hK K
  try simp only [Act.put, List.setIfInBounds_toArray, List.set_cons_zero, List.set_cons_succ]
  refine take_call (i := 9) rfl (by kernel_rfl) (by kernel_rfl) (fun K hK => ?_)
  simp only [evV]
  go_simp
  refine hK.out _ _ (Skey.out _ (fun k hk => Below.heap_alloc W1 _ k (Hlt1.out k hk))) (fun hHeld3 => ?_)
  clear hK K hHeld hHeld2 hHeld3
  try simp only [Act.put, List.setIfInBounds_toArray, List.set_cons_zero, List.set_cons_succ]
  refine wpAnyH_done (by kernel_rfl) ?_ _
  obtain ⟨q3, hq3⟩ : ∃ q3, W1.heap.size = q3 := ⟨_, rfl⟩
  obtain ⟨W2, hW2⟩ : ∃ W, (W1.alloc (.cells #[.int .i64 x.key.time, .int .i64 x.key.source, .int .i64 x.key.seq, .int .i64 x.to, .int .i64 x.value] 34)).drew = W := ⟨_, rfl⟩
  have bx2 := Lib.hid (show W2.heap[q3]? = some (.cells #[.int .i64 x.key.time, .int .i64 x.key.source, .int .i64 x.key.seq, .int .i64 x.to, .int .i64 x.value] 34 (0, 0)) by rw [← hW2, ← hq3]; exact World.alloc_heap_new W1 _)
  have f12 : Fr0 none' W1 W2 := by rw [← hW2]; exact ((Fr0.refl none' W1).alloc _).drew
  rw [hW2]
  try rw [hq3]
  have Hq3 := Lib.hid hq3
  clear hW2 hq3 Skey Hlt1
  have H2 := Lib.hid (H1.out.fr0 f12 (fun _ _ h => h))
  have br2 := Lib.hid ((f12.block q2 (Array.getElem?_eq_some_iff.1 br1.out).1 id).trans br1.out)
  have bo2 := Lib.hid ((f12.block (q2 + 1) (Array.getElem?_eq_some_iff.1 bo1.out).1 id).trans bo1.out)
  have F2 := Lib.hid (F1.out.trans f12)
  clear f12
  have her : errP n (X.map entX) (p : Int) = 0 := by
    unfold errP
    rw [if_neg (by omega), if_neg]
    rw [Int.toNat_natCast, look_none]
    exact fun hh => hh _ (List.mem_map.2 ⟨_, Hy.out, rfl⟩) rfl
  have hp2 : HeapIs W2.drew hb ba hv n (X.map entX) := H2.out.hp.later0 (Fr0.refl none' W2).drew
  have HRem := Remove_is hp2 (p : Int)
  rw [show delP n (X.map entX) (p : Int) = delL p (X.map entX) by unfold delP; rw [if_pos her, Int.toNat_natCast]] at HRem
  have HRem := Lib.hid HRem
  have c1 := H2.out.c1
  have r0 := cells_in br2.out 0
  have r1 := cells_in br2.out 1
  simp at r0 r1
  clear hp2 her
  go_wp2_with fail
  go_still_tail 6, (by kernel_rfl)
  change wpList _ _ _ _ _ W2.drew
  go_wp2_with fail
  refine HRem.out.mono ?_
  rintro e W3 ⟨rfl, hv', hp3, hs3⟩
  have f23 : Fr0 (foot hb ba hv) W2 W3 := (Fr0.refl (foot hb ba hv) W2).drew.trans hs3.fr.to0
  have own3 := Lib.hid (show ∀ g, hv'.ownBlock = some g → hv.ownBlock = some g ∨ w.heap.size ≤ g from fun g hg => (hs3.own g hg).imp id (fun h => Nat.le_trans F2.out.size h))
  have own3s := Lib.hid (show ∀ g, hv'.ownBlock = some g → hv.ownBlock = some g ∨ W2.heap.size ≤ g from hs3.own)
  have hold : ∀ k, w.heap.size ≤ k → ¬ foot hb ba hv k := fun k hk hf => by have := H.out.lt k (.inr (.inr (.inr (.inr (.inr hf))))); omega
  have hq23 : w.heap.size ≤ q2 ∧ w.heap.size ≤ q3 := by
    have h1 := Hq2.out
    have h2 := Hq3.out
    have h3 := F1.out.size
    omega
  have HQ := Lib.hid hq23
  have br3 := Lib.hid ((f23.block q2 (Array.getElem?_eq_some_iff.1 br2.out).1 (hold _ hq23.1)).trans br2.out)
  have bo3 := Lib.hid ((f23.block (q2 + 1) (Array.getElem?_eq_some_iff.1 bo2.out).1 (hold _ (by omega))).trans bo2.out)
  have bx3 := Lib.hid ((f23.block q3 (Array.getElem?_eq_some_iff.1 bx2.out).1 (hold _ hq23.2)).trans bx2.out)
  have hd3 := Lib.hid ((f23.block qb (Array.getElem?_eq_some_iff.1 H2.out.hd).1 (fun hk => (HP.out.he _ hk).2.2 rfl)).trans H2.out.hd)
  have ev3 := Lib.hid ((f23.block eb (Array.getElem?_eq_some_iff.1 H2.out.ev).1 (fun hk => (HP.out.he _ hk).1 rfl)).trans H2.out.ev)
  have nm3 := Lib.hid (H2.out.nm.fr0 f23 (fun hk => (HP.out.he _ hk).2.1 rfl))
  have sl3 := Lib.hid (H2.out.sl.fr0 f23 (fun k hk hf => HP.out.h k hf hk))
  have hp3 := Lib.hid hp3
  have F3 := Lib.hid (show Fr0 (qfoot qb sb pb hb ba eb mb hv) w W3 from (F2.out.mono (fun _ _ h => h.elim)).trans (f23.mono (fun k _ hk => .inr (.inr (.inr (.inr (.inr hk)))))))
  have HGive := Lib.hid (SGive_is (sl3.out.later (Fr0.refl none' W3).drew) Hpl.out Htk.out Hlf.out (by have := H.out.n256; omega))
  clear c1 r0 r1 hs3 f23 hold hq23
  have c0 : W3.cell? ⟨qb, 0, none⟩ = some (.pointer (some ⟨sb, 0, none⟩)) := by rw [cells_in hd3.out]; rfl
  have r0 := cells_in br3.out 0
  have r1 := cells_in br3.out 1
  simp at r0 r1
  go_wp2_with fail
  go_still_tail 5, (by kernel_rfl)
  change wpList _ _ _ _ _ W3.drew
  go_wp2_with fail
  refine HGive.out.mono ?_
  rintro e W4 ⟨rfl, sl4, f34'⟩
  have f34 : Fr0 (lfoot sb pb) W3 W4 := (Fr0.refl (lfoot sb pb) W3).drew.trans f34'
  have hnl : ∀ k, w.heap.size ≤ k → ¬ lfoot sb pb k := fun k hk hf => by have := H.out.sl.lt k hf; omega
  have sl4 := Lib.hid sl4
  have br4 := Lib.hid ((f34.block q2 (Array.getElem?_eq_some_iff.1 br3.out).1 (hnl _ HQ.out.1)).trans br3.out)
  have bo4 := Lib.hid ((f34.block (q2 + 1) (Array.getElem?_eq_some_iff.1 bo3.out).1 (hnl _ (by have := HQ.out.1; omega))).trans bo3.out)
  have bx4 := Lib.hid ((f34.block q3 (Array.getElem?_eq_some_iff.1 bx3.out).1 (hnl _ HQ.out.2)).trans bx3.out)
  have hd4 := Lib.hid ((f34.block qb (Array.getElem?_eq_some_iff.1 hd3.out).1 HP.out.q).trans hd3.out)
  have ev4 := Lib.hid ((f34.block eb (Array.getElem?_eq_some_iff.1 ev3.out).1 HP.out.e).trans ev3.out)
  have nm4 := Lib.hid (nm3.out.fr0 f34 HP.out.m)
  have hp4 := Lib.hid (hp3.out.fr0 f34 (fun k hk => by
    rcases hk with hk | hk | hk
    · exact HP.out.h k (.inl hk)
    · exact HP.out.h k (.inr (.inl hk))
    · rcases own3.out k hk with h | h
      · exact HP.out.h k (.inr (.inr h))
      · exact hnl k h))
  have F4 := Lib.hid (F3.out.trans (f34.mono (fun k _ hk => by rcases hk with rfl | rfl; exact .inr (.inl rfl); exact .inr (.inr (.inl rfl)))))
  clear c0 r0 r1 f34 f34' hnl
  have Skey := Lib.hid (show ∀ W', (∀ k, k = qb ∨ k = q3 → W'.heap[k]? = W4.heap[k]?) → W'.cell? ⟨qb, 3, none⟩ = some (.map (some mb)) ∧ EAt W' q3 0 x ∧ True from fun W' hf => by
    have g1 := (hf qb (.inl rfl)).trans hd4.out
    have g2 := (hf q3 (.inr rfl)).trans bx4.out
    refine ⟨by rw [cells_in g1]; rfl, ⟨?_, ?_, ?_, ?_, ?_⟩, trivial⟩ <;> rw [cells_in g2] <;> rfl)
  have hlt4 : ∀ k, k = qb ∨ k = q3 → k < W4.heap.size := fun k hk => by
    rcases hk with rfl | rfl
    · exact (Array.getElem?_eq_some_iff.1 hd4.out).1
    · exact (Array.getElem?_eq_some_iff.1 bx4.out).1
  go_wp2_with fail
  refine wp_region_held_drew (S := fun W' => W'.cell? ⟨qb, 3, none⟩ = some (.map (some mb)) ∧ EAt W' q3 0 x ∧ True) (by kernel_rfl) (Skey.out _ (fun _ _ => rfl)) (fun hHeld => ?_)
  refine take_on (i := 0) (v := .pointer (some ⟨qb, 0, none⟩)) rfl (by kernel_rfl) (by kernel_rfl) (by kernel_rfl) (fun _ _ _ h => h) (by kernel_rfl) (fun W' hSW => ?_) (by assumption) ?_
  · (try dsimp only at hSW)
    first | (go_simp; done) | (obtain ⟨s0, ⟨s1, s2, s3, s4, s5⟩, s6⟩ := hSW; (try simp only [Nat.zero_add] at s1 s2 s3 s4 s5); (try simp only [evV]); go_simp; done) | exact rfl | (go_simp; rfl) | (go_simp; omega)
  try simp only [Act.put, List.setIfInBounds_toArray, List.set_cons_zero, List.set_cons_succ]
  refine take_on (i := 1) (v := .pointer (some ⟨qb, 0, none⟩)) rfl (by kernel_rfl) (by kernel_rfl) (by kernel_rfl) (fun _ _ _ h => h) (by kernel_rfl) (fun W' hSW => ?_) (by assumption) ?_
  · (try dsimp only at hSW)
    first | (go_simp; done) | (obtain ⟨s0, ⟨s1, s2, s3, s4, s5⟩, s6⟩ := hSW; (try simp only [Nat.zero_add] at s1 s2 s3 s4 s5); (try simp only [evV]); go_simp; done) | exact rfl | (go_simp; rfl) | (go_simp; omega)
  try simp only [Act.put, List.setIfInBounds_toArray, List.set_cons_zero, List.set_cons_succ]
  refine take_on (i := 2) (v := .pointer (some ⟨qb, 3, none⟩)) rfl (by kernel_rfl) (by kernel_rfl) (by kernel_rfl) (fun _ _ _ h => h) (by kernel_rfl) (fun W' hSW => ?_) (by assumption) ?_
  · (try dsimp only at hSW)
    first | (go_simp; done) | (obtain ⟨s0, ⟨s1, s2, s3, s4, s5⟩, s6⟩ := hSW; (try simp only [Nat.zero_add] at s1 s2 s3 s4 s5); (try simp only [evV]); go_simp; done) | exact rfl | (go_simp; rfl) | (go_simp; omega)
  try simp only [Act.put, List.setIfInBounds_toArray, List.set_cons_zero, List.set_cons_succ]
  refine take_on (i := 3) (v := .map (some mb)) rfl (by kernel_rfl) (by kernel_rfl) (by kernel_rfl) (fun _ _ _ h => h) (by kernel_rfl) (fun W' hSW => ?_) (by assumption) ?_
  · (try dsimp only at hSW)
    first | (go_simp; done) | (obtain ⟨s0, ⟨s1, s2, s3, s4, s5⟩, s6⟩ := hSW; (try simp only [Nat.zero_add] at s1 s2 s3 s4 s5); (try simp only [evV]); go_simp; done) | exact rfl | (go_simp; rfl) | (go_simp; omega)
  try simp only [Act.put, List.setIfInBounds_toArray, List.set_cons_zero, List.set_cons_succ]
  refine take_on (i := 4) (v := evV x) rfl (by kernel_rfl) (by kernel_rfl) (by kernel_rfl) (fun _ _ _ h => h) (by kernel_rfl) (fun W' hSW => ?_) (by assumption) ?_
  · (try dsimp only at hSW)
    first | (go_simp; done) | (obtain ⟨s0, ⟨s1, s2, s3, s4, s5⟩, s6⟩ := hSW; (try simp only [Nat.zero_add] at s1 s2 s3 s4 s5); (try simp only [evV]); go_simp; done) | exact rfl | (go_simp; rfl) | (go_simp; omega)
  try simp only [Act.put, List.setIfInBounds_toArray, List.set_cons_zero, List.set_cons_succ]
  refine take_call (i := 5) rfl (by kernel_rfl) (by kernel_rfl) (fun K hK => ?_)
  go_simp
  refine (of_any x _).mono ?_
  rintro e W5 ⟨rfl, f45'⟩
  have f45 : Fr0 none' W4 W5 := (Fr0.refl none' W4).drew.trans f45'
  have hre := H.out.right _ Hy.out
  obtain ⟨hi1, hi2⟩ := rightE_i64 hre
  obtain ⟨kl, hkl⟩ := name_key_is hi1 hi2
  obtain ⟨W6, hrun, nm6, f56⟩ := (nm4.out.fr0 f45 id).drop (Go.Maps.Keyed.of_law name_law) Try.underlying75 Hy.out H.out.once H.out.ok.snd hkl 0
  simp only at hrun nm6
  have hk6 : ∀ k, k = qb ∨ k = q3 → W6.heap[k]? = W4.heap[k]? := fun k hk => by
    refine (f56.block k (Nat.lt_of_lt_of_le (hlt4 k hk) f45.size) (fun e => ?_)).trans (f45.block k (hlt4 k hk) id)
    have h1 := H.out.lt mb (.inr (.inr (.inr (.inr (.inl rfl)))))
    have h2 := HQ.out.2
    rcases hk with rfl | rfl
    · exact HP.out.qm e
    · omega
  have Hrun := Lib.hid hrun
  have Nm6 := Lib.hid nm6
  have F56 := Lib.hid f56
  have F45 := Lib.hid f45
  have Hk6 := Lib.hid hk6
  refine hK.out _ _ (Skey.out _ (fun k hk => f45.block k (hlt4 k hk) id)) (fun hHeld2 => ?_)
  clear hK K f45' f45 hrun nm6 f56 hk6 hkl hi1 hi2 hre
  try simp only [Act.put, List.setIfInBounds_toArray, List.set_cons_zero, List.set_cons_succ]
  refine take_call (i := 6) rfl (by kernel_rfl) (by kernel_rfl) (fun K hK => ?_)
  have hrun := Hrun.out
  go_simp
  refine hK.out _ _ (Skey.out _ Hk6.out) (fun hHeld3 => ?_)
  clear hK K hrun hHeld hHeld2 hHeld3
  try simp only [Act.put, List.setIfInBounds_toArray, List.set_cons_zero, List.set_cons_succ]
  refine wpAnyH_done (by kernel_rfl) ?_ _
  have hmn : ∀ k, w.heap.size ≤ k → k ≠ mb := fun k hk e => by have := H.out.lt mb (.inr (.inr (.inr (.inr (.inl rfl))))); omega
  have F46 := Lib.hid (show Fr0 (fun b => b = mb) W4 W6 from (F45.out.mono (fun _ _ h => h.elim)).trans F56.out)
  have br6 := Lib.hid ((F46.out.block q2 (Array.getElem?_eq_some_iff.1 br4.out).1 (hmn _ HQ.out.1)).trans br4.out)
  have bo6 := Lib.hid ((F46.out.block (q2 + 1) (Array.getElem?_eq_some_iff.1 bo4.out).1 (hmn _ (by have := HQ.out.1; omega))).trans bo4.out)
  have bx6 := Lib.hid ((F46.out.block q3 (Array.getElem?_eq_some_iff.1 bx4.out).1 (hmn _ HQ.out.2)).trans bx4.out)
  have hd6 := Lib.hid ((F46.out.block qb (Array.getElem?_eq_some_iff.1 hd4.out).1 HP.out.qm).trans hd4.out)
  have ev6 := Lib.hid ((F46.out.block eb (Array.getElem?_eq_some_iff.1 ev4.out).1 (fun e => HP.out.em e.symm)).trans ev4.out)
  have sl6 := Lib.hid (sl4.out.fr0 F46.out (fun k hk e => HP.out.m (e ▸ hk)))
  have hp6 := Lib.hid (hp4.out.fr0 F46.out (fun k hk e => by
    rcases hk with hk | hk | hk
    · exact (HP.out.he k (.inl hk)).2.1 e
    · exact (HP.out.he k (.inr (.inl hk))).2.1 e
    · rcases own3.out k hk with h | h
      · exact (HP.out.he k (.inr (.inr h))).2.1 e
      · exact hmn k h e))
  have F6 := Lib.hid (F4.out.trans (F46.out.mono (fun k _ hk => .inr (.inr (.inr (.inr (.inl hk)))))))
  clear hmn hlt4 Skey Hk6 F45 F56 F46 Hrun
  have hold : ∀ k, w.heap.size ≤ k → k ≠ eb := fun k hk e => by have := H.out.lt eb (.inr (.inr (.inr (.inl rfl)))); omega
  have Skey := Lib.hid (show ∀ W' : World, (∀ k, k = qb ∨ k = q2 → W'.heap[k]? = W6.heap[k]?) → W'.cell? ⟨qb, 2, none⟩ = some (.slice (some ⟨eb, 0, none⟩) n n) ∧ W'.cell? ⟨q2, 0, none⟩ = some (.int .i64 p) from fun W' hf => by
    refine ⟨?_, ?_⟩
    · rw [cells_in ((hf qb (.inl rfl)).trans hd6.out)]; rfl
    · rw [cells_in ((hf q2 (.inr rfl)).trans br6.out)]; rfl)
  have hy := Hvx.out
  have y0 : W6.cell? ⟨eb, p * 5, none⟩ = some (.int .i64 x.key.time) := by rw [cells_in ev6.out, List.getElem?_toArray]; exact flat_some cev_len hy (j := 0) (by omega) rfl
  have y1 : W6.cell? ⟨eb, p * 5 + 1, none⟩ = some (.int .i64 x.key.source) := by rw [cells_in ev6.out, List.getElem?_toArray]; exact flat_some cev_len hy (j := 1) (by omega) rfl
  have y2 : W6.cell? ⟨eb, p * 5 + 2, none⟩ = some (.int .i64 x.key.seq) := by rw [cells_in ev6.out, List.getElem?_toArray]; exact flat_some cev_len hy (j := 2) (by omega) rfl
  have y3 : W6.cell? ⟨eb, p * 5 + 3, none⟩ = some (.int .i64 x.to) := by rw [cells_in ev6.out, List.getElem?_toArray]; exact flat_some cev_len hy (j := 3) (by omega) rfl
  have y4 : W6.cell? ⟨eb, p * 5 + 4, none⟩ = some (.int .i64 x.value) := by rw [cells_in ev6.out, List.getElem?_toArray]; exact flat_some cev_len hy (j := 4) (by omega) rfl
  have t0 := thaw_in ev6.out (p * 5)
  have t1 := thaw_in ev6.out (p * 5 + 1)
  have t2 := thaw_in ev6.out (p * 5 + 2)
  have t3 := thaw_in ev6.out (p * 5 + 3)
  have t4 := thaw_in ev6.out (p * 5 + 4)
  clear hy
  go_wp2_with fail
  refine wp_region_held_drew (S := fun W' => W'.cell? ⟨qb, 2, none⟩ = some (.slice (some ⟨eb, 0, none⟩) n n) ∧ W'.cell? ⟨q2, 0, none⟩ = some (.int .i64 p)) (by kernel_rfl) (Skey.out _ (fun _ _ => rfl)) (fun hHeld => ?_)
  refine take_on (i := 0) (v := .pointer (some ⟨qb, 0, none⟩)) rfl (by kernel_rfl) (by kernel_rfl) (by kernel_rfl) (fun _ _ _ h => h) (by kernel_rfl) (fun W' hSW => ?_) (by assumption) ?_
  · (try dsimp only at hSW)
    first | (go_simp; done) | (obtain ⟨s0, ⟨s1, s2, s3, s4, s5⟩, s6⟩ := hSW; (try simp only [Nat.zero_add] at s1 s2 s3 s4 s5); (try simp only [evV]); go_simp; done) | exact rfl | (go_simp; rfl) | (go_simp; omega)
  try simp only [Act.put, List.setIfInBounds_toArray, List.set_cons_zero, List.set_cons_succ]
  refine take_on (i := 1) (v := .pointer (some ⟨qb, 0, none⟩)) rfl (by kernel_rfl) (by kernel_rfl) (by kernel_rfl) (fun _ _ _ h => h) (by kernel_rfl) (fun W' hSW => ?_) (by assumption) ?_
  · (try dsimp only at hSW)
    first | (go_simp; done) | (obtain ⟨s0, ⟨s1, s2, s3, s4, s5⟩, s6⟩ := hSW; (try simp only [Nat.zero_add] at s1 s2 s3 s4 s5); (try simp only [evV]); go_simp; done) | exact rfl | (go_simp; rfl) | (go_simp; omega)
  try simp only [Act.put, List.setIfInBounds_toArray, List.set_cons_zero, List.set_cons_succ]
  refine take_on (i := 2) (v := .pointer (some ⟨qb, 2, none⟩)) rfl (by kernel_rfl) (by kernel_rfl) (by kernel_rfl) (fun _ _ _ h => h) (by kernel_rfl) (fun W' hSW => ?_) (by assumption) ?_
  · (try dsimp only at hSW)
    first | (go_simp; done) | (obtain ⟨s0, ⟨s1, s2, s3, s4, s5⟩, s6⟩ := hSW; (try simp only [Nat.zero_add] at s1 s2 s3 s4 s5); (try simp only [evV]); go_simp; done) | exact rfl | (go_simp; rfl) | (go_simp; omega)
  try simp only [Act.put, List.setIfInBounds_toArray, List.set_cons_zero, List.set_cons_succ]
  refine take_on (i := 3) (v := .slice (some ⟨eb, 0, none⟩) n n) rfl (by kernel_rfl) (by kernel_rfl) (by kernel_rfl) (fun _ _ _ h => h) (by kernel_rfl) (fun W' hSW => ?_) (by assumption) ?_
  · (try dsimp only at hSW)
    first | (go_simp; done) | (obtain ⟨s0, ⟨s1, s2, s3, s4, s5⟩, s6⟩ := hSW; (try simp only [Nat.zero_add] at s1 s2 s3 s4 s5); (try simp only [evV]); go_simp; done) | exact rfl | (go_simp; rfl) | (go_simp; omega)
  try simp only [Act.put, List.setIfInBounds_toArray, List.set_cons_zero, List.set_cons_succ]
  refine take_on (i := 4) (v := .pointer (some ⟨q2, 0, none⟩)) rfl (by kernel_rfl) (by kernel_rfl) (by kernel_rfl) (fun _ _ _ h => h) (by kernel_rfl) (fun W' hSW => ?_) (by assumption) ?_
  · (try dsimp only at hSW)
    first | (go_simp; done) | (obtain ⟨s0, ⟨s1, s2, s3, s4, s5⟩, s6⟩ := hSW; (try simp only [Nat.zero_add] at s1 s2 s3 s4 s5); (try simp only [evV]); go_simp; done) | exact rfl | (go_simp; rfl) | (go_simp; omega)
  try simp only [Act.put, List.setIfInBounds_toArray, List.set_cons_zero, List.set_cons_succ]
  refine take_on (i := 5) (v := .int .i64 p) rfl (by kernel_rfl) (by kernel_rfl) (by kernel_rfl) (fun _ _ _ h => h) (by kernel_rfl) (fun W' hSW => ?_) (by assumption) ?_
  · (try dsimp only at hSW)
    first | (go_simp; done) | (obtain ⟨s0, ⟨s1, s2, s3, s4, s5⟩, s6⟩ := hSW; (try simp only [Nat.zero_add] at s1 s2 s3 s4 s5); (try simp only [evV]); go_simp; done) | exact rfl | (go_simp; rfl) | (go_simp; omega)
  try simp only [Act.put, List.setIfInBounds_toArray, List.set_cons_zero, List.set_cons_succ]
  refine take_on (i := 6) (v := .agg #[.int .i64 0, .int .i64 0, .int .i64 0, .int .i64 0, .int .i64 0]) rfl (by kernel_rfl) (by kernel_rfl) (by kernel_rfl) (fun _ _ _ h => h) (by kernel_rfl) (fun W' hSW => ?_) (by assumption) ?_
  · (try dsimp only at hSW)
    first | (go_simp; done) | (obtain ⟨s0, ⟨s1, s2, s3, s4, s5⟩, s6⟩ := hSW; (try simp only [Nat.zero_add] at s1 s2 s3 s4 s5); (try simp only [evV]); go_simp; done) | exact rfl | (go_simp; rfl) | (go_simp; omega)
  try simp only [Act.put, List.setIfInBounds_toArray, List.set_cons_zero, List.set_cons_succ]
  refine take_on (i := 7) (v := .pointer (some ⟨eb, p * 5, none⟩)) rfl (by kernel_rfl) (by kernel_rfl) (by kernel_rfl) (fun _ _ _ h => h) (by kernel_rfl) (fun W' hSW => ?_) (by assumption) ?_
  · (try dsimp only at hSW)
    first | (go_simp; done) | (obtain ⟨s0, ⟨s1, s2, s3, s4, s5⟩, s6⟩ := hSW; (try simp only [Nat.zero_add] at s1 s2 s3 s4 s5); (try simp only [evV]); go_simp; done) | exact rfl | (go_simp; rfl) | (go_simp; omega)
  try simp only [Act.put, List.setIfInBounds_toArray, List.set_cons_zero, List.set_cons_succ]
  refine take_call (i := 8) rfl (by kernel_rfl) (by kernel_rfl) (fun K hK => ?_)
  go_simp
  obtain ⟨W7, hW7⟩ : ∃ W, (((((W6.setCell ⟨eb, p * 5, none⟩ (.int .i64 0)).setCell ⟨eb, p * 5 + 1, none⟩ (.int .i64 0)).setCell ⟨eb, p * 5 + 2, none⟩ (.int .i64 0)).setCell ⟨eb, p * 5 + 3, none⟩ (.int .i64 0)).setCell ⟨eb, p * 5 + 4, none⟩ (.int .i64 0)) = W := ⟨_, rfl⟩
  try rw [hW7]
  have hde : (W6.setCell ⟨eb, p * 5, none⟩ (.int .i64 0)).heap.size = (W6.setCell ⟨eb, p * 5, none⟩ (.int .i64 0)).heap.size := rfl
  have ev7 := Lib.hid (show W7.heap[eb]? = some (.cells (flatEv (V.set p noEv)).toArray 34 (0, 0)) by rw [← hW7]; exact ev_row5 ev6.out Hvx.out _ _ _ _ _)
  have f67 : Fr0 (fun k => k = eb) W6 W7 := by rw [← hW7]; exact (((((Fr0.refl (fun k => k = eb) W6).setCell (fun _ => rfl) _).setCell (fun _ => rfl) _).setCell (fun _ => rfl) _).setCell (fun _ => rfl) _).setCell (fun _ => rfl) _
  have q7 := (f67.block qb (Array.getElem?_eq_some_iff.1 hd6.out).1 HP.out.eq)
  have r7 := (f67.block q2 (Array.getElem?_eq_some_iff.1 br6.out).1 (hold _ HQ.out.1))
  refine hK.out _ _ (Skey.out _ (fun k hk => by rcases hk with rfl | rfl; exact q7; exact r7)) (fun hHeld2 => ?_)
  clear hK K hHeld hHeld2 y0 y1 y2 y3 y4 t0 t1 t2 t3 t4 Skey hde
  try simp only [Act.put, List.setIfInBounds_toArray, List.set_cons_zero, List.set_cons_succ]
  refine wpAnyH_done (by kernel_rfl) ?_ _
  try rw [hW7]
  obtain ⟨W8, hW8⟩ : ∃ W8, W7.drew = W8 := ⟨_, rfl⟩
  have f68 : Fr0 (fun k => k = eb) W6 W8 := by rw [← hW8]; exact f67.drew
  have ev8 : W8.heap[eb]? = some (.cells (flatEv (V.set p noEv)).toArray 34 (0, 0)) := by rw [← hW8]; exact ev7.out
  try rw [hW8]
  have bo8 := Lib.hid ((f68.block (q2 + 1) (Array.getElem?_eq_some_iff.1 bo6.out).1 (hold _ (by have := HQ.out.1; omega))).trans bo6.out)
  have bx8 := Lib.hid ((f68.block q3 (Array.getElem?_eq_some_iff.1 bx6.out).1 (hold _ HQ.out.2)).trans bx6.out)
  have g1 : W8.heap[qb]? = w.heap[qb]? := (f68.block qb (Array.getElem?_eq_some_iff.1 hd6.out).1 HP.out.eq).trans (hd6.out.trans H.out.hd.symm)
  have hQ8 := H.out.taken (W := W8) (hv' := hv') Hy.out Hpl.out g1 (sl6.out.fr0 f68 (fun k hk e => HP.out.e (e ▸ hk))) (hp6.out.fr0 f68 (fun k hk e => by
    rcases hk with hk | hk | hk
    · exact (HP.out.he k (.inl hk)).1 e
    · exact (HP.out.he k (.inr (.inl hk))).1 e
    · rcases own3.out k hk with h | h
      · exact (HP.out.he k (.inr (.inr h))).1 e
      · exact hold k h e)) ev8 (Nm6.out.fr0 f68 HP.out.em) own3.out
  have HQ8 := Lib.hid hQ8
  have F8 := Lib.hid (F6.out.trans (f68.mono (fun k _ hk => .inr (.inr (.inr (.inl hk))))))
  have hne : q3 ≠ q2 + 1 := by have := Hz1.out; have := Hq3.out; omega
  have hne' : q2 + 1 ≠ q3 := hne.symm
  clear hW7 hW8 f67 f68 ev7 ev8 q7 r7 g1 hQ8 hold
  have x0 := cells_in bx8.out 0
  have x1 := cells_in bx8.out 1
  have x2 := cells_in bx8.out 2
  have x3 := cells_in bx8.out 3
  have x4 := cells_in bx8.out 4
  have o0 := cells_in bo8.out 0
  have o1 := cells_in bo8.out 1
  have o2 := cells_in bo8.out 2
  have o3 := cells_in bo8.out 3
  have o4 := cells_in bo8.out 4
  simp at x0 x1 x2 x3 x4 o0 o1 o2 o3 o4
  have t0 := thaw_in bo8.out 0
  have t1 := thaw_in bo8.out 1
  have t2 := thaw_in bo8.out 2
  have t3 := thaw_in bo8.out 3
  have t4 := thaw_in bo8.out 4
  go_wp2_with fail
  have e6 := ev_set5 bo8.out (.int .i64 x.key.time) (.int .i64 x.key.source) (.int .i64 x.key.seq) (.int .i64 x.to) (.int .i64 x.value)
  have f6 : Fr0 (fun k => k = q2 + 1) W8 (((((W8.setCell ⟨q2 + 1, 0, none⟩ (.int .i64 x.key.time)).setCell ⟨q2 + 1, 1, none⟩ (.int .i64 x.key.source)).setCell ⟨q2 + 1, 2, none⟩ (.int .i64 x.key.seq)).setCell ⟨q2 + 1, 3, none⟩ (.int .i64 x.to)).setCell ⟨q2 + 1, 4, none⟩ (.int .i64 x.value)) := (((((Fr0.refl (fun k => k = q2 + 1) W8).setCell (fun _ => rfl) _).setCell (fun _ => rfl) _).setCell (fun _ => rfl) _).setCell (fun _ => rfl) _).setCell (fun _ => rfl) _
  generalize (((((W8.setCell ⟨q2 + 1, 0, none⟩ (.int .i64 x.key.time)).setCell ⟨q2 + 1, 1, none⟩ (.int .i64 x.key.source)).setCell ⟨q2 + 1, 2, none⟩ (.int .i64 x.key.seq)).setCell ⟨q2 + 1, 3, none⟩ (.int .i64 x.to)).setCell ⟨q2 + 1, 4, none⟩ (.int .i64 x.value)) = VV at e6 f6 ⊢
  have hz2 := (Array.getElem?_eq_some_iff.1 bo2.out).1
  have hfoot : ∀ k, qfoot qb sb pb hb ba eb mb hv' k → k ≠ q2 + 1 := fun k hk e => by
    have h1 : ∀ j, qfoot qb sb pb hb ba eb mb hv j → j ≠ q2 + 1 := fun j hj => by
      have := H.out.lt j hj
      have := HQ.out.1
      omega
    rcases hk with h | h | h | h | h | h | h | h
    · exact h1 k (.inl h) e
    · exact h1 k (.inr (.inl h)) e
    · exact h1 k (.inr (.inr (.inl h))) e
    · exact h1 k (.inr (.inr (.inr (.inl h)))) e
    · exact h1 k (.inr (.inr (.inr (.inr (.inl h))))) e
    · exact h1 k (.inr (.inr (.inr (.inr (.inr (.inl h)))))) e
    · exact h1 k (.inr (.inr (.inr (.inr (.inr (.inr (.inl h))))))) e
    · rcases own3s.out k h with g | g
      · exact h1 k (.inr (.inr (.inr (.inr (.inr (.inr (.inr g))))))) e
      · omega
  have hQV := HQ8.out.fr0 f6 (fun k hk e => hfoot k hk e)
  have fV : Fr0 (qfoot qb sb pb hb ba eb mb hv) w VV := F8.out.trans' f6 (fun k hk e => by have := HQ.out.1; omega)
  clear x0 x1 x2 x3 x4 o0 o1 o2 o3 o4
  have x0 := cells_in e6 0
  have x1 := cells_in e6 1
  have x2 := cells_in e6 2
  have x3 := cells_in e6 3
  have x4 := cells_in e6 4
  simp at x0 x1 x2 x3 x4
  exact bodyPost_ret (v := .agg #[.int .i64 x.key.time, .int .i64 x.key.source, .int .i64 x.key.seq, .int .i64 x.to, .int .i64 x.value]) (by simp [results, Try.results43, go_sem, x0, x1, x2, x3, x4]) rfl ⟨rfl, hv', hQV, fV, own3.out⟩
end Go.Proofs.Ytmcgipilopfgoaa

/-
  The queue: Take, Cancel.
-/
namespace Go.Proofs.Ytmcgipilopfgoaa
open Go Go.RowKit Go.ChangeMaps
attribute [local go_sem ↓] Go.wp_at_zero Go.wp_at_succ
attribute [local go_sem] Oper.semAt_some wide_fn wide_depth wide_fnR wide_depthR
variable {w : World} {qb sb pb hb ba eb mb n T : Nat} {hv : Value} {X : List Pd} {F : List Nat} {P : List Pl} {first : Int} {V : List Ev}

theorem QIn.qis (h : QIn w qb sb pb hb ba eb mb hv n T X F P first V) : QIs w qb n T (X.map Prod.fst) (qfoot qb sb pb hb ba eb mb hv) := ⟨sb, pb, hb, ba, eb, mb, hv, X, F, P, first, V, h, rfl, fun _ h => h, h.lt⟩
/-- A queue behind an act. -/
theorem QIn.grown {w' : World} {hv' : Value} {T' : Nat} {X' : List Pd} {F' : List Nat} {P' : List Pl} {first' : Int} {V' : List Ev} {E : List Ev} {ft : Nat → Prop} (h : QIn w' qb sb pb hb ba eb mb hv' n T' X' F' P' first' V') (hE : X'.map Prod.fst = E)
    (hft : ∀ k, qfoot qb sb pb hb ba eb mb hv k → ft k) (hlt : ∀ k, ft k → k < w.heap.size) (hsz : w.heap.size ≤ w'.heap.size) (own : ∀ g, hv'.ownBlock = some g → hv.ownBlock = some g ∨ w.heap.size ≤ g) : QIs w' qb n T' E (qgrow ft w w') := by
  refine ⟨sb, pb, hb, ba, eb, mb, hv', X', F', P', first', V', h, hE, fun k hk => ?_, fun k hk => ?_⟩
  · have hl := h.lt k hk
    rcases hk with h | h | h | h | h | h | h | h
    · exact .inl (hft k (.inl h))
    · exact .inl (hft k (.inr (.inl h)))
    · exact .inl (hft k (.inr (.inr (.inl h))))
    · exact .inl (hft k (.inr (.inr (.inr (.inl h)))))
    · exact .inl (hft k (.inr (.inr (.inr (.inr (.inl h))))))
    · exact .inl (hft k (.inr (.inr (.inr (.inr (.inr (.inl h)))))))
    · exact .inl (hft k (.inr (.inr (.inr (.inr (.inr (.inr (.inl h))))))))
    · rcases own k h with g | g
      · exact .inl (hft k (.inr (.inr (.inr (.inr (.inr (.inr (.inr g))))))))
      · exact .inr ⟨g, hl⟩
  · rcases hk with h | h
    · have := hlt k h; omega
    · exact h.2
/-- put, on a queue. -/
theorem QIs.put {E : List Ev} {ft : Nat → Prop} {x : Ev} (h : QIs w qb n T E ft) (hr : RightE x) (hn : ∀ y ∈ E, y.name ≠ x.name) (hT : T < 4294967295) (hroom : E.length < n) :
    Calls Try.prog 46 #[.pointer (some ⟨qb, 0, none⟩), evV x] w fun e w' => e = .returned (.tuple #[]) ∧ QIs w' qb n (T + 1) (insE x E) (qgrow ft w w') ∧ Fr0 ft w w' := by
  obtain ⟨sb, pb, hb, ba, eb, mb, hv, X, F, P, first, V, h1, rfl, h3, h4⟩ := h
  obtain ⟨p, F', rfl⟩ : ∃ p F', F = p :: F' := by
    cases F with
    | nil => have := h1.ok.count; rw [List.length_map] at hroom; simp at this; omega
    | cons p F' => exact ⟨p, F', rfl⟩
  refine (Qput_is h1 hr (fun y hy => hn _ (List.mem_map.2 ⟨y, hy, rfl⟩)) hT).mono ?_
  rintro e w' ⟨rfl, pl, hv', _, hq, hf, own⟩
  exact ⟨rfl, hq.grown (insX_fst _ _) h3 h4 hf.size own, hf.mono (fun k _ hk => h3 k hk)⟩
theorem zero_ref (w : World) : (zeroValue 86).run Try.prog w = .ok (refV 0 0) w := Try.zeroValue86 w
set_option maxRecDepth 100000 in
set_option maxHeartbeats 1000000 in
theorem QTake_nil (h : QIn w qb sb pb hb ba eb mb hv n T [] F P first V) :
    Calls Try.prog 16 #[.pointer (some ⟨qb, 0, none⟩)] w fun e w' => e = .returned (.tuple #[evV zeroEv, .int .i64 6]) ∧ Fr0 none' w w' := by
  have H := Lib.hid h
  clear h
  go_enter Try.func16, Try.ntmps16
  go_wp2_with fail
  obtain ⟨q, hq⟩ : ∃ q, w.heap.size = q := ⟨_, rfl⟩
  obtain ⟨W1, hW1⟩ : ∃ W, w.alloc (.cells #[.int .i64 0, .int .i64 0, .int .i64 0, .int .i64 0, .int .i64 0] 34) = W := ⟨_, rfl⟩
  have hbq := Lib.hid (show W1.heap[q]? = some (.cells #[.int .i64 0, .int .i64 0, .int .i64 0, .int .i64 0, .int .i64 0] 34 (0, 0)) by rw [← hW1, ← hq]; exact World.alloc_heap_new w _)
  have F1 := Lib.hid (show Fr0 none' w W1 by rw [← hW1]; exact (Fr0.refl _ _).alloc _)
  rw [hW1]
  try rw [hq]
  have Hq := Lib.hid hq
  clear hW1 hq
  have h1 := H.out.fr0 F1.out (fun _ _ h => h)
  have H1 := Lib.hid h1
  refine (qnone_is h1).mono ?_
  rintro e w1 ⟨rfl, rfl⟩
  clear h1
  go_wp2_with fail
  refine (QLeast_is H1.out).mono ?_
  rintro e w2 ⟨rfl, hf2⟩
  obtain ⟨z, hz⟩ : ∃ z, lstE [] = z := ⟨_, rfl⟩
  simp only [List.map_nil, hz, List.isEmpty_nil, Bool.not_true, evV]
  have hb2 := Lib.hid ((hf2.block q (Array.getElem?_eq_some_iff.1 hbq.out).1 id).trans hbq.out)
  obtain ⟨W2, hW2⟩ : ∃ W2, w2.alloc (.cells #[.int .i64 z.key.time, .int .i64 z.key.source, .int .i64 z.key.seq, .int .i64 z.to, .int .i64 z.value] 34) = W2 := ⟨_, rfl⟩
  have f2 : Fr0 none' w W2 := by rw [← hW2]; exact (F1.out.trans hf2).alloc _
  have b2 : W2.heap[q]? = some (.cells #[.int .i64 0, .int .i64 0, .int .i64 0, .int .i64 0, .int .i64 0] 34 (0, 0)) := by rw [← hW2]; exact (Below.heap_alloc _ _ _ (Array.getElem?_eq_some_iff.1 hb2.out).1).trans hb2.out
  clear hbq F1
  have F1 := Lib.hid f2
  have hbq := Lib.hid b2
  clear f2 b2 hf2 hb2 hz
  have t0 := thaw_in hbq.out 0
  have t1 := thaw_in hbq.out 1
  have t2 := thaw_in hbq.out 2
  have t3 := thaw_in hbq.out 3
  have t4 := thaw_in hbq.out 4
  have y0 := cells_in hbq.out 0
  have y1 := cells_in hbq.out 1
  have y2 := cells_in hbq.out 2
  have y3 := cells_in hbq.out 3
  have y4 := cells_in hbq.out 4
  simp at y0 y1 y2 y3 y4
  go_wp2_with fail
  clear hW2
  have e6 := ev_set5 hbq.out (.int .i64 0) (.int .i64 0) (.int .i64 0) (.int .i64 0) (.int .i64 0)
  have f6 : Fr0 none' w (((((W2.setCell ⟨q, 0, none⟩ (.int .i64 0)).setCell ⟨q, 1, none⟩ (.int .i64 0)).setCell ⟨q, 2, none⟩ (.int .i64 0)).setCell ⟨q, 3, none⟩ (.int .i64 0)).setCell ⟨q, 4, none⟩ (.int .i64 0)) := F1.out.trans' (S' := fun k => k = q) (((((Fr0.refl (fun k => k = q) W2).setCell (fun _ => rfl) _).setCell (fun _ => rfl) _).setCell (fun _ => rfl) _).setCell (fun _ => rfl) _ |>.setCell (fun _ => rfl) _) (fun k hk e => by have := Hq.out; omega)
  generalize (((((W2.setCell ⟨q, 0, none⟩ (.int .i64 0)).setCell ⟨q, 1, none⟩ (.int .i64 0)).setCell ⟨q, 2, none⟩ (.int .i64 0)).setCell ⟨q, 3, none⟩ (.int .i64 0)).setCell ⟨q, 4, none⟩ (.int .i64 0)) = VV at e6 f6 ⊢
  clear y0 y1 y2 y3 y4
  have y0 := cells_in e6 0
  have y1 := cells_in e6 1
  have y2 := cells_in e6 2
  have y3 := cells_in e6 3
  have y4 := cells_in e6 4
  simp at y0 y1 y2 y3 y4
  exact bodyPost_ret (v := .tuple #[evV zeroEv, .int .i64 6]) (by simp [results, Try.results16, go_sem, y0, y1, y2, y3, y4, evV, zeroEv]) rfl ⟨rfl, f6⟩
set_option maxRecDepth 100000 in
set_option maxHeartbeats 1000000 in
theorem QTake_cons {y : Pd} {r : List Pd} (h : QIn w qb sb pb hb ba eb mb hv n T (y :: r) F P first V) (hT : T < 4294967296) :
    Calls Try.prog 16 #[.pointer (some ⟨qb, 0, none⟩)] w fun e w' => e = .returned (.tuple #[evV y.1, .int .i64 0]) ∧ ∃ hv' F' P' first' V', QIn w' qb sb pb hb ba eb mb hv' n T (delX y.2 (y :: r)) F' P' first' V' ∧ Fr0 (qfoot qb sb pb hb ba eb mb hv) w w' ∧ ∀ g, hv'.ownBlock = some g → hv.ownBlock = some g ∨ w.heap.size ≤ g := by
  have H := Lib.hid h
  obtain ⟨x, p⟩ := y
  clear h
  go_enter Try.func16, Try.ntmps16
  go_wp2_with fail
  obtain ⟨q, hq⟩ : ∃ q, w.heap.size = q := ⟨_, rfl⟩
  obtain ⟨W1, hW1⟩ : ∃ W, w.alloc (.cells #[.int .i64 0, .int .i64 0, .int .i64 0, .int .i64 0, .int .i64 0] 34) = W := ⟨_, rfl⟩
  have hbq := Lib.hid (show W1.heap[q]? = some (.cells #[.int .i64 0, .int .i64 0, .int .i64 0, .int .i64 0, .int .i64 0] 34 (0, 0)) by rw [← hW1, ← hq]; exact World.alloc_heap_new w _)
  have F1 := Lib.hid (show Fr0 none' w W1 by rw [← hW1]; exact (Fr0.refl _ _).alloc _)
  rw [hW1]
  try rw [hq]
  have Hq := Lib.hid hq
  clear hW1 hq
  have h1 := H.out.fr0 F1.out (fun _ _ h => h)
  have H1 := Lib.hid h1
  refine (qnone_is h1).mono ?_
  rintro e w1 ⟨rfl, rfl⟩
  clear h1
  go_wp2_with fail
  refine (QLeast_is H1.out).mono ?_
  rintro e w2 ⟨rfl, hf2⟩
  simp only [List.map_cons, lstE, List.isEmpty_cons, Bool.not_false, evV]
  go_wp2_with fail
  obtain ⟨q4, hq4⟩ : ∃ q4, w2.heap.size = q4 := ⟨_, rfl⟩
  obtain ⟨W3, hW3⟩ : ∃ W, w2.alloc (.cells #[.int .i64 x.key.time, .int .i64 x.key.source, .int .i64 x.key.seq, .int .i64 x.to, .int .i64 x.value] 34) = W := ⟨_, rfl⟩
  have bx3 := Lib.hid (show W3.heap[q4]? = some (.cells #[.int .i64 x.key.time, .int .i64 x.key.source, .int .i64 x.key.seq, .int .i64 x.to, .int .i64 x.value] 34 (0, 0)) by rw [← hW3, ← hq4]; exact World.alloc_heap_new w2 _)
  have f3 : Fr0 none' W1 W3 := by rw [← hW3]; exact hf2.alloc _
  rw [hW3]
  try rw [hq4]
  have HBO := Lib.hid hbq.out
  have Hq4 := Lib.hid (show W1.heap.size ≤ q4 by rw [← hq4]; exact hf2.size)
  clear hW3 hq4 hf2
  have H3 := Lib.hid (H1.out.fr0 f3 (fun _ _ h => h))
  have bo3 := Lib.hid ((f3.block q (Array.getElem?_eq_some_iff.1 hbq.out).1 id).trans hbq.out)
  have F3 := Lib.hid (F1.out.trans f3)
  clear f3
  have Skey := Lib.hid (show ∀ W' : World, (∀ k, k = qb ∨ k = q4 → W'.heap[k]? = W3.heap[k]?) → W'.cell? ⟨qb, 3, none⟩ = some (.map (some mb)) ∧ EAt W' q4 0 x ∧ True from fun W' hf => by
    have g1 := (hf qb (.inl rfl)).trans H3.out.hd
    have g2 := (hf q4 (.inr rfl)).trans bx3.out
    refine ⟨by rw [cells_in g1]; rfl, ⟨?_, ?_, ?_, ?_, ?_⟩, trivial⟩ <;> rw [cells_in g2] <;> rfl)
  have hlt3 : ∀ k, k = qb ∨ k = q4 → k < W3.heap.size := fun k hk => by
    rcases hk with rfl | rfl
    · exact (Array.getElem?_eq_some_iff.1 H3.out.hd).1
    · exact (Array.getElem?_eq_some_iff.1 bx3.out).1
  refine wp_region_held_drew (S := fun W' => W'.cell? ⟨qb, 3, none⟩ = some (.map (some mb)) ∧ EAt W' q4 0 x ∧ True) (by kernel_rfl) (Skey.out _ (fun _ _ => rfl)) (fun hHeld => ?_)
  refine take_on (i := 0) (v := .pointer (some ⟨qb, 0, none⟩)) rfl (by kernel_rfl) (by kernel_rfl) (by kernel_rfl) (fun _ _ _ h => h) (by kernel_rfl) (fun W' hSW => ?_) (by assumption) ?_
  · (try dsimp only at hSW)
    first | (go_simp; done) | (obtain ⟨s0, ⟨s1, s2, s3, s4, s5⟩, s6⟩ := hSW; (try simp only [Nat.zero_add] at s1 s2 s3 s4 s5); (try simp only [evV]); go_simp; done) | exact rfl | (go_simp; rfl) | (go_simp; omega)
  try simp only [Act.put, List.setIfInBounds_toArray, List.set_cons_zero, List.set_cons_succ]
  refine take_on (i := 1) (v := .pointer (some ⟨qb, 0, none⟩)) rfl (by kernel_rfl) (by kernel_rfl) (by kernel_rfl) (fun _ _ _ h => h) (by kernel_rfl) (fun W' hSW => ?_) (by assumption) ?_
  · (try dsimp only at hSW)
    first | (go_simp; done) | (obtain ⟨s0, ⟨s1, s2, s3, s4, s5⟩, s6⟩ := hSW; (try simp only [Nat.zero_add] at s1 s2 s3 s4 s5); (try simp only [evV]); go_simp; done) | exact rfl | (go_simp; rfl) | (go_simp; omega)
  try simp only [Act.put, List.setIfInBounds_toArray, List.set_cons_zero, List.set_cons_succ]
  refine take_on (i := 2) (v := .pointer (some ⟨qb, 0, none⟩)) rfl (by kernel_rfl) (by kernel_rfl) (by kernel_rfl) (fun _ _ _ h => h) (by kernel_rfl) (fun W' hSW => ?_) (by assumption) ?_
  · (try dsimp only at hSW)
    first | (go_simp; done) | (obtain ⟨s0, ⟨s1, s2, s3, s4, s5⟩, s6⟩ := hSW; (try simp only [Nat.zero_add] at s1 s2 s3 s4 s5); (try simp only [evV]); go_simp; done) | exact rfl | (go_simp; rfl) | (go_simp; omega)
  try simp only [Act.put, List.setIfInBounds_toArray, List.set_cons_zero, List.set_cons_succ]
  refine take_on (i := 3) (v := .pointer (some ⟨qb, 3, none⟩)) rfl (by kernel_rfl) (by kernel_rfl) (by kernel_rfl) (fun _ _ _ h => h) (by kernel_rfl) (fun W' hSW => ?_) (by assumption) ?_
  · (try dsimp only at hSW)
    first | (go_simp; done) | (obtain ⟨s0, ⟨s1, s2, s3, s4, s5⟩, s6⟩ := hSW; (try simp only [Nat.zero_add] at s1 s2 s3 s4 s5); (try simp only [evV]); go_simp; done) | exact rfl | (go_simp; rfl) | (go_simp; omega)
  try simp only [Act.put, List.setIfInBounds_toArray, List.set_cons_zero, List.set_cons_succ]
  refine take_on (i := 4) (v := .map (some mb)) rfl (by kernel_rfl) (by kernel_rfl) (by kernel_rfl) (fun _ _ _ h => h) (by kernel_rfl) (fun W' hSW => ?_) (by assumption) ?_
  · (try dsimp only at hSW)
    first | (go_simp; done) | (obtain ⟨s0, ⟨s1, s2, s3, s4, s5⟩, s6⟩ := hSW; (try simp only [Nat.zero_add] at s1 s2 s3 s4 s5); (try simp only [evV]); go_simp; done) | exact rfl | (go_simp; rfl) | (go_simp; omega)
  try simp only [Act.put, List.setIfInBounds_toArray, List.set_cons_zero, List.set_cons_succ]
  refine take_on (i := 5) (v := evV x) rfl (by kernel_rfl) (by kernel_rfl) (by kernel_rfl) (fun _ _ _ h => h) (by kernel_rfl) (fun W' hSW => ?_) (by assumption) ?_
  · (try dsimp only at hSW)
    first | (go_simp; done) | (obtain ⟨s0, ⟨s1, s2, s3, s4, s5⟩, s6⟩ := hSW; (try simp only [Nat.zero_add] at s1 s2 s3 s4 s5); (try simp only [evV]); go_simp; done) | exact rfl | (go_simp; rfl) | (go_simp; omega)
  try simp only [Act.put, List.setIfInBounds_toArray, List.set_cons_zero, List.set_cons_succ]
  refine take_call (i := 6) rfl (by kernel_rfl) (by kernel_rfl) (fun K hK => ?_)
  go_simp
  refine (of_any x _).mono ?_
  rintro e W5 ⟨rfl, f35'⟩
  have f35 : Fr0 none' W3 W5 := (Fr0.refl none' W3).drew.trans f35'
  have h5 := H3.out.fr0 f35 (fun _ _ h => h)
  have hy5 : (x, p) ∈ (x, p) :: r := List.mem_cons_self
  obtain ⟨pl, hpl, htk⟩ := h5.ok.tk _ hy5
  obtain ⟨hi1, hi2⟩ := rightE_i64 (h5.right _ hy5)
  obtain ⟨kl, hkl⟩ := name_key_is hi1 hi2
  have hlook := (h5.nm.look (Go.Maps.Keyed.of_law name_law) Try.underlying75 (zero_ref W5) hy5 hkl).2
  rw [lifeP_at hpl] at hlook
  have HRem := Lib.hid (Qremove_is h5 hy5 hpl hT)
  simp only at HRem
  have Hlook := Lib.hid (show (Instr.lookup 75 (.map (some mb)) (nameV x.name) false).run Try.prog W5 = .ok (.agg #[.int .i64 p, .int .i64 pl.life]) W5 from hlook)
  have hS5 := Skey.out W5 (fun k hk => f35.block k (hlt3 k hk) id)
  have H5 := Lib.hid h5
  have F5 := Lib.hid (F3.out.trans f35)
  have bo5 := Lib.hid ((f35.block q (Array.getElem?_eq_some_iff.1 bo3.out).1 id).trans bo3.out)
  have F35 := Lib.hid f35
  have Hlt3 := Lib.hid hlt3
  refine hK.out _ _ hS5 (fun hHeld2 => ?_)
  clear hK K f35' f35 h5 hlook hkl hi1 hi2 hpl htk hlt3
  try simp only [Act.put, List.setIfInBounds_toArray, List.set_cons_zero, List.set_cons_succ]
  refine take_call (i := 7) rfl (by kernel_rfl) (by kernel_rfl) (fun K hK => ?_)
  have hlook := Hlook.out
  go_simp
  refine hK.out _ _ hS5 (fun hHeld3 => ?_)
  clear hK K hlook
  try simp only [Act.put, List.setIfInBounds_toArray, List.set_cons_zero, List.set_cons_succ]
  refine take_call (i := 8) rfl (by kernel_rfl) (by kernel_rfl) (fun K hK => ?_)
  go_simp
  refine HRem.out.mono ?_
  rintro e W7 ⟨rfl, hv', hQ7, f57, own7⟩
  have hold : ∀ k, w.heap.size ≤ k → ¬ qfoot qb sb pb hb ba eb mb hv k := fun k hk hf => by have := H.out.lt k hf; omega
  have hq0 : w.heap.size ≤ q := by have := Hq.out; omega
  have hq4 : w.heap.size ≤ q4 := by have := Hq4.out; have := F1.out.size; omega
  have hqq : q ≠ q4 := by have := Hq4.out; have := (Array.getElem?_eq_some_iff.1 HBO.out).1; omega
  have hl5 : ∀ k, k < W3.heap.size → k < W5.heap.size := fun k hk => by have := F35.out.size; omega
  have hk7 : ∀ k, k = qb ∨ k = q4 → W7.heap[k]? = W3.heap[k]? := fun k hk => by
    rcases hk with rfl | rfl
    · exact hQ7.hd.trans H3.out.hd.symm
    · have h1 := Hlt3.out _ (.inr rfl)
      exact (f57.block _ (hl5 _ h1) (hold _ hq4)).trans (F35.out.block _ h1 id)
  have bo7 := Lib.hid ((f57.block q (Array.getElem?_eq_some_iff.1 bo5.out).1 (hold _ hq0)).trans bo5.out)
  have hS7 := Skey.out W7 hk7
  have HQ7 := Lib.hid hQ7
  have F7 := Lib.hid ((F5.out.mono (fun _ _ h => h.elim)).trans f57)
  have own7 := Lib.hid (show ∀ g, hv'.ownBlock = some g → hv.ownBlock = some g ∨ W5.heap.size ≤ g from own7)
  refine hK.out _ _ hS7 (fun hHeld4 => ?_)
  clear hK K
  try simp only [Act.put, List.setIfInBounds_toArray, List.set_cons_zero, List.set_cons_succ]
  have y0 := cells_in bo7.out 0
  have y1 := cells_in bo7.out 1
  have y2 := cells_in bo7.out 2
  have y3 := cells_in bo7.out 3
  have y4 := cells_in bo7.out 4
  simp at y0 y1 y2 y3 y4
  have t0 := thaw_in bo7.out 0
  have t1 := thaw_in bo7.out 1
  have t2 := thaw_in bo7.out 2
  have t3 := thaw_in bo7.out 3
  have t4 := thaw_in bo7.out 4
  refine take_call (i := 9) rfl (by kernel_rfl) (by kernel_rfl) (fun K hK => ?_)
  simp only [evV]
  go_simp
  obtain ⟨W8, hW8⟩ : ∃ W, (((((W7.setCell ⟨q, 0, none⟩ (.int .i64 x.key.time)).setCell ⟨q, 1, none⟩ (.int .i64 x.key.source)).setCell ⟨q, 2, none⟩ (.int .i64 x.key.seq)).setCell ⟨q, 3, none⟩ (.int .i64 x.to)).setCell ⟨q, 4, none⟩ (.int .i64 x.value)) = W := ⟨_, rfl⟩
  try rw [hW8]
  have e8 : W8.heap[q]? = some (.cells #[.int .i64 x.key.time, .int .i64 x.key.source, .int .i64 x.key.seq, .int .i64 x.to, .int .i64 x.value] 34 (0, 0)) := by rw [← hW8]; exact ev_set5 bo7.out _ _ _ _ _
  have f78 : Fr0 (fun k => k = q) W7 W8 := by rw [← hW8]; exact (((((Fr0.refl (fun k => k = q) W7).setCell (fun _ => rfl) _).setCell (fun _ => rfl) _).setCell (fun _ => rfl) _).setCell (fun _ => rfl) _).setCell (fun _ => rfl) _
  have hl7 : ∀ k, k = qb ∨ k = q4 → k < W7.heap.size := fun k hk => by have h1 := hl5 _ (Hlt3.out k hk); have h2 := f57.size; omega
  have hS8 := Skey.out W8 (fun k hk => (f78.block k (hl7 k hk) (fun e => by
    rcases hk with rfl | rfl
    · have := H.out.lt k (.inl rfl); omega
    · exact hqq e.symm)).trans (hk7 k hk))
  refine hK.out _ _ hS8 (fun hHeld5 => ?_)
  clear hK K y0 y1 y2 y3 y4 t0 t1 t2 t3 t4
  try simp only [Act.put, List.setIfInBounds_toArray, List.set_cons_zero, List.set_cons_succ]
  refine take_call (i := 10) rfl (by kernel_rfl) (by kernel_rfl) (fun K hK => ?_)
  go_simp
  refine hK.out _ _ hS8 (fun hHeld6 => ?_)
  clear hK K
  try simp only [Act.put, List.setIfInBounds_toArray, List.set_cons_zero, List.set_cons_succ]
  refine wpAnyH_done (by kernel_rfl) ?_ _
  have hQ8 := HQ7.out.fr0 f78 (fun k hk e => by
    have h1 : ∀ j, qfoot qb sb pb hb ba eb mb hv j → j ≠ q := fun j hj => by
      have := H.out.lt j hj
      omega
    rcases hk with h | h | h | h | h | h | h | h
    · exact h1 k (.inl h) e
    · exact h1 k (.inr (.inl h)) e
    · exact h1 k (.inr (.inr (.inl h))) e
    · exact h1 k (.inr (.inr (.inr (.inl h)))) e
    · exact h1 k (.inr (.inr (.inr (.inr (.inl h))))) e
    · exact h1 k (.inr (.inr (.inr (.inr (.inr (.inl h)))))) e
    · exact h1 k (.inr (.inr (.inr (.inr (.inr (.inr (.inl h))))))) e
    · rcases own7.out k h with g | g
      · exact h1 k (.inr (.inr (.inr (.inr (.inr (.inr (.inr g))))))) e
      · have := hl5 _ (Array.getElem?_eq_some_iff.1 bo3.out).1; omega)
  have f8 : Fr0 (qfoot qb sb pb hb ba eb mb hv) w W8 := F7.out.trans' f78 (fun k hk e => by omega)
  have own8 : ∀ g, hv'.ownBlock = some g → hv.ownBlock = some g ∨ w.heap.size ≤ g := fun g hg => (own7.out g hg).imp id (fun h => Nat.le_trans F5.out.size h)
  clear hS5 hS7 hS8 hHeld hHeld2 hHeld3 hHeld4 hHeld5 hHeld6 hk7 hl7 hl5
  go_wp2_with fail
  have y0 := cells_in e8 0
  have y1 := cells_in e8 1
  have y2 := cells_in e8 2
  have y3 := cells_in e8 3
  have y4 := cells_in e8 4
  simp at y0 y1 y2 y3 y4
  exact bodyPost_ret (v := .tuple #[evV x, .int .i64 0]) (by simp [results, Try.results16, go_sem, y0, y1, y2, y3, y4, evV]) rfl ⟨rfl, hv', _, _, _, _, hQ8, f8, own8⟩
end Go.Proofs.Ytmcgipilopfgoaa

/-
  The queue: Cancel, Find.
-/
namespace Go.Proofs.Ytmcgipilopfgoaa
open Go Go.RowKit Go.ChangeMaps
attribute [local go_sem ↓] Go.wp_at_zero Go.wp_at_succ
attribute [local go_sem] Oper.semAt_some wide_fn wide_depth wide_fnR wide_depthR
variable {w : World} {qb sb pb hb ba eb mb n T : Nat} {hv : Value} {X : List Pd} {F : List Nat} {P : List Pl} {first : Int} {V : List Ev}


theorem QIs.take {E : List Ev} {ft : Nat → Prop} (h : QIs w qb n T E ft) (hT : T < 4294967296) :
    Calls Try.prog 16 #[.pointer (some ⟨qb, 0, none⟩)] w fun e w' => e = .returned (.tuple #[evV (lstE E), .int .i64 (if E = [] then 6 else 0)]) ∧ QIs w' qb n T E.tail (qgrow ft w w') ∧ Fr0 ft w w' := by
  obtain ⟨sb, pb, hb, ba, eb, mb, hv, X, F, P, first, V, h1, rfl, h3, h4⟩ := h
  cases X with
  | nil =>
    refine (QTake_nil h1).mono ?_
    rintro e w' ⟨rfl, hf⟩
    exact ⟨rfl, (h1.fr0 hf (fun _ _ h => h)).grown rfl h3 h4 hf.size (fun g hg => .inl hg), hf.mono (fun _ _ h => h.elim)⟩
  | cons y r =>
    refine (QTake_cons h1 hT).mono ?_
    rintro e w' ⟨rfl, hv', F', P', first', V', hq, hf, own⟩
    refine ⟨by simp [lstE], hq.grown ?_ h3 h4 hf.size own, hf.mono (fun k _ hk => h3 k hk)⟩
    rw [delX_fst h1.once h1.ok.snd List.mem_cons_self]
    exact delE_first h1.once
theorem QIs.least {E : List Ev} {ft : Nat → Prop} (h : QIs w qb n T E ft) : Calls Try.prog 35 #[.pointer (some ⟨qb, 0, none⟩)] w fun e w' => e = .returned (.tuple #[evV (lstE E), .bool !E.isEmpty]) ∧ Fr0 none' w w' := by
  obtain ⟨sb, pb, hb, ba, eb, mb, hv, X, F, P, first, V, h1, rfl, h3, h4⟩ := h
  refine (QLeast_is h1).mono ?_
  rintro e w' ⟨rfl, hf⟩
  exact ⟨by simp, hf⟩
theorem QIs.all {E : List Ev} {ft : Nat → Prop} (h : QIs w qb n T E ft) : Calls Try.prog 24 #[.pointer (some ⟨qb, 0, none⟩)] w fun e w' => ∃ v, e = .returned v ∧ w'.ownsRow w.heap.size 34 5 v E.length (flatEv E) ∧ Fr0 none' w w' := by
  obtain ⟨sb, pb, hb, ba, eb, mb, hv, X, F, P, first, V, h1, rfl, h3, h4⟩ := h
  refine (QAll_is h1).mono ?_
  rintro e w' ⟨v, rfl, hr, hf⟩
  rw [List.length_map]
  exact ⟨v, rfl, hr, hf⟩
theorem QIs.len {E : List Ev} {ft : Nat → Prop} (h : QIs w qb n T E ft) : Calls Try.prog 14 #[.pointer (some ⟨qb, 0, none⟩)] w fun e w' => e = .returned (.int .i64 (E.length : Nat)) ∧ w = w' := by
  obtain ⟨sb, pb, hb, ba, eb, mb, hv, X, F, P, first, V, h1, rfl, h3, h4⟩ := h
  refine (QLen_is h1).mono ?_
  rintro e w' ⟨rfl, rfl⟩
  exact ⟨by rw [List.length_map], rfl⟩
theorem QIs.room {E : List Ev} {ft : Nat → Prop} (h : QIs w qb n T E ft) : Calls Try.prog 12 #[.pointer (some ⟨qb, 0, none⟩)] w fun e w' => e = .returned (.int .i64 (n - E.length : Nat)) ∧ Fr0 none' w w' := by
  obtain ⟨sb, pb, hb, ba, eb, mb, hv, X, F, P, first, V, h1, rfl, h3, h4⟩ := h
  refine (QRoom_is h1).mono ?_
  rintro e w' ⟨rfl, hf⟩
  exact ⟨by rw [List.length_map], hf⟩
theorem QIs.le {E : List Ev} {ft : Nat → Prop} (h : QIs w qb n T E ft) : E.length ≤ n ∧ n ≤ 256 := by
  obtain ⟨sb, pb, hb, ba, eb, mb, hv, X, F, P, first, V, h1, rfl, h3, h4⟩ := h
  have := h1.ok.count
  have := h1.n256
  rw [List.length_map]
  omega
theorem QIs.good {E : List Ev} {ft : Nat → Prop} (h : QIs w qb n T E ft) : AscE E ∧ OnceE E ∧ ∀ x ∈ E, RightE x := by
  obtain ⟨sb, pb, hb, ba, eb, mb, hv, X, F, P, first, V, h1, rfl, h3, h4⟩ := h
  refine ⟨h1.asc, h1.once, fun x hx => ?_⟩
  obtain ⟨y, hy, rfl⟩ := List.mem_map.1 hx
  exact h1.right y hy
theorem QIs.lt {E : List Ev} {ft : Nat → Prop} (h : QIs w qb n T E ft) : ∀ k, ft k → k < w.heap.size := by
  obtain ⟨sb, pb, hb, ba, eb, mb, hv, X, F, P, first, V, h1, rfl, h3, h4⟩ := h
  exact h4
theorem QIs.mono {T' : Nat} {E : List Ev} {ft : Nat → Prop} (h : QIs w qb n T E ft) (hT : T ≤ T') : QIs w qb n T' E ft := by
  obtain ⟨sb, pb, hb, ba, eb, mb, hv, X, F, P, first, V, h1, h2, h3, h4⟩ := h
  exact ⟨sb, pb, hb, ba, eb, mb, hv, X, F, P, first, V, { h1 with ok := h1.ok.mono hT }, h2, h3, h4⟩
set_option maxRecDepth 100000 in
set_option maxHeartbeats 1000000 in
theorem QFind_none {nm : Int × Int} (h : QIn w qb sb pb hb ba eb mb hv n T X F P first V) (h1 : I64 nm.1) (h2 : I64 nm.2) (hn : ∀ y ∈ X, y.1.name ≠ nm) :
    Calls Try.prog 30 #[.pointer (some ⟨qb, 0, none⟩), .int .i64 nm.1, .int .i64 nm.2] w fun e w' => e = .returned (.tuple #[evV zeroEv, .bool false]) ∧ Fr0 none' w w' := by
  have H := Lib.hid h
  obtain ⟨kl, hkl⟩ := name_key_is h1 h2
  have HL := Lib.hid (fun W (hf : Fr0 none' w W) => (h.fr0 hf (fun _ _ h => h)).nm.none (Go.Maps.Keyed.of_law name_law) Try.underlying75 (zero_ref W) hn hkl)
  obtain ⟨za, hza⟩ : ∃ za : Int, (0 : Int) = za := ⟨_, rfl⟩
  have hrz : refV 0 0 = .agg #[.int .i64 za, .int .i64 za] := by rw [← hza]; rfl
  rw [hrz] at HL
  unfold nameV at HL
  clear h h1 h2 hkl hn hza hrz
  go_enter Try.func30, Try.ntmps30
  go_wp2_with fail
  obtain ⟨q, hq⟩ : ∃ q, w.heap.size = q := ⟨_, rfl⟩
  obtain ⟨W1, hW1⟩ : ∃ W, w.alloc (.cells #[.int .i64 0, .int .i64 0, .int .i64 0, .int .i64 0, .int .i64 0] 34) = W := ⟨_, rfl⟩
  have hbq := Lib.hid (show W1.heap[q]? = some (.cells #[.int .i64 0, .int .i64 0, .int .i64 0, .int .i64 0, .int .i64 0] 34 (0, 0)) by rw [← hW1, ← hq]; exact World.alloc_heap_new w _)
  have F1 := Lib.hid (show Fr0 none' w W1 by rw [← hW1]; exact (Fr0.refl _ _).alloc _)
  rw [hW1]
  try rw [hq]
  have Hq := Lib.hid hq
  clear hW1 hq
  have h1 := H.out.fr0 F1.out (fun _ _ h => h)
  have H1 := Lib.hid h1
  refine (qnone_is h1).mono ?_
  rintro e w1 ⟨rfl, rfl⟩
  clear h1
  have c3 := H1.out.c3
  have hl := HL.out W1 F1.out
  obtain ⟨W2, hW2⟩ : ∃ W2, W1.alloc (.cells #[.int .i64 za, .int .i64 za] 86) = W2 := ⟨_, rfl⟩
  have f2 : Fr0 none' w W2 := by rw [← hW2]; exact F1.out.alloc _
  have b2 : W2.heap[q]? = some (.cells #[.int .i64 0, .int .i64 0, .int .i64 0, .int .i64 0, .int .i64 0] 34 (0, 0)) := by rw [← hW2]; exact (Below.heap_alloc _ _ _ (Array.getElem?_eq_some_iff.1 hbq.out).1).trans hbq.out
  clear hbq F1
  have F1 := Lib.hid f2
  have hbq := Lib.hid b2
  clear f2 b2
  have t0 := thaw_in hbq.out 0
  have t1 := thaw_in hbq.out 1
  have t2 := thaw_in hbq.out 2
  have t3 := thaw_in hbq.out 3
  have t4 := thaw_in hbq.out 4
  have y0 := cells_in hbq.out 0
  have y1 := cells_in hbq.out 1
  have y2 := cells_in hbq.out 2
  have y3 := cells_in hbq.out 3
  have y4 := cells_in hbq.out 4
  simp at y0 y1 y2 y3 y4
  go_wp2_with fail
  clear hW2
  have e6 := ev_set5 hbq.out (.int .i64 0) (.int .i64 0) (.int .i64 0) (.int .i64 0) (.int .i64 0)
  have f6 : Fr0 none' w (((((W2.setCell ⟨q, 0, none⟩ (.int .i64 0)).setCell ⟨q, 1, none⟩ (.int .i64 0)).setCell ⟨q, 2, none⟩ (.int .i64 0)).setCell ⟨q, 3, none⟩ (.int .i64 0)).setCell ⟨q, 4, none⟩ (.int .i64 0)) := F1.out.trans' (S' := fun k => k = q) (((((Fr0.refl (fun k => k = q) W2).setCell (fun _ => rfl) _).setCell (fun _ => rfl) _).setCell (fun _ => rfl) _).setCell (fun _ => rfl) _ |>.setCell (fun _ => rfl) _) (fun k hk e => by have := Hq.out; omega)
  generalize (((((W2.setCell ⟨q, 0, none⟩ (.int .i64 0)).setCell ⟨q, 1, none⟩ (.int .i64 0)).setCell ⟨q, 2, none⟩ (.int .i64 0)).setCell ⟨q, 3, none⟩ (.int .i64 0)).setCell ⟨q, 4, none⟩ (.int .i64 0)) = VV at e6 f6 ⊢
  clear y0 y1 y2 y3 y4
  have y0 := cells_in e6 0
  have y1 := cells_in e6 1
  have y2 := cells_in e6 2
  have y3 := cells_in e6 3
  have y4 := cells_in e6 4
  simp at y0 y1 y2 y3 y4
  exact bodyPost_ret (v := .tuple #[evV zeroEv, .bool false]) (by simp [results, Try.results30, go_sem, y0, y1, y2, y3, y4, evV, zeroEv]) rfl ⟨rfl, f6⟩
set_option maxRecDepth 100000 in
set_option maxHeartbeats 1000000 in
theorem QFind_some {y : Pd} (h : QIn w qb sb pb hb ba eb mb hv n T X F P first V) (hy : y ∈ X) :
    Calls Try.prog 30 #[.pointer (some ⟨qb, 0, none⟩), .int .i64 y.1.key.source, .int .i64 y.1.key.seq] w fun e w' => e = .returned (.tuple #[evV y.1, .bool true]) ∧ Fr0 none' w w' := by
  have H := Lib.hid h
  obtain ⟨x, p⟩ := y
  obtain ⟨pl, hpl, _⟩ := h.ok.tk _ hy
  obtain ⟨hi1, hi2⟩ := rightE_i64 (h.right _ hy)
  obtain ⟨kl, hkl⟩ := name_key_is hi1 hi2
  have HL := Lib.hid (fun W (hf : Fr0 none' w W) => ((h.fr0 hf (fun _ _ h => h)).nm.look (Go.Maps.Keyed.of_law name_law) Try.underlying75 (zero_ref W) hy hkl).1)
  rw [lifeP_at hpl] at HL
  unfold nameV refV Ev.name at HL
  simp only at HL ⊢
  have hvx := h.vx _ hy
  have hpn : p < n := h.ok.xlt hy
  have Hvx := Lib.hid hvx
  have z1 : (0 : Int) ≤ (p : Int) := by omega
  have z2 : (p : Int) < (n : Int) := by omega
  simp only at hpl hvx
  clear h hkl hi1 hi2 hpl hvx hy
  go_enter Try.func30, Try.ntmps30
  go_wp2_with fail
  obtain ⟨q, hq⟩ : ∃ q, w.heap.size = q := ⟨_, rfl⟩
  obtain ⟨W1, hW1⟩ : ∃ W, w.alloc (.cells #[.int .i64 0, .int .i64 0, .int .i64 0, .int .i64 0, .int .i64 0] 34) = W := ⟨_, rfl⟩
  have hbq := Lib.hid (show W1.heap[q]? = some (.cells #[.int .i64 0, .int .i64 0, .int .i64 0, .int .i64 0, .int .i64 0] 34 (0, 0)) by rw [← hW1, ← hq]; exact World.alloc_heap_new w _)
  have F1 := Lib.hid (show Fr0 none' w W1 by rw [← hW1]; exact (Fr0.refl _ _).alloc _)
  rw [hW1]
  try rw [hq]
  have Hq := Lib.hid hq
  clear hW1 hq
  have h1 := H.out.fr0 F1.out (fun _ _ h => h)
  have H1 := Lib.hid h1
  refine (qnone_is h1).mono ?_
  rintro e w1 ⟨rfl, rfl⟩
  clear h1
  have c3 := H1.out.c3
  have hl := HL.out W1 F1.out
  obtain ⟨W2, hW2⟩ : ∃ W2, W1.alloc (.cells #[.int .i64 p, .int .i64 pl.life] 86) = W2 := ⟨_, rfl⟩
  have f12 : Fr0 none' W1 W2 := by rw [← hW2]; exact (Fr0.refl _ _).alloc _
  have f2 : Fr0 none' w W2 := F1.out.trans f12
  have b2 := (f12.block q (Array.getElem?_eq_some_iff.1 hbq.out).1 id).trans hbq.out
  have br2 : W2.heap[W1.heap.size]? = some (.cells #[.int .i64 p, .int .i64 pl.life] 86 (0, 0)) := by rw [← hW2]; exact World.alloc_heap_new W1 _
  have H2 := Lib.hid (H1.out.fr0 f12 (fun _ _ h => h))
  clear hbq F1
  have F1 := Lib.hid f2
  have hbq := Lib.hid b2
  have Br2 := Lib.hid br2
  obtain ⟨q2, hq2⟩ : ∃ q2, W1.heap.size = q2 := ⟨_, rfl⟩
  rw [hq2] at Br2
  have r0 := cells_in Br2.out 0
  have r1 := cells_in Br2.out 1
  simp at r0 r1
  have c2 := H2.out.c2
  obtain ⟨e0, e1, e2, e3, e4⟩ := H2.out.event Hvx.out
  clear f2 b2 f12 br2
  have t0 := thaw_in hbq.out 0
  have t1 := thaw_in hbq.out 1
  have t2 := thaw_in hbq.out 2
  have t3 := thaw_in hbq.out 3
  have t4 := thaw_in hbq.out 4
  have y0 := cells_in hbq.out 0
  have y1 := cells_in hbq.out 1
  have y2 := cells_in hbq.out 2
  have y3 := cells_in hbq.out 3
  have y4 := cells_in hbq.out 4
  simp at y0 y1 y2 y3 y4
  go_wp2_with fail
  clear hW2
  go_still_tail 8, (by kernel_rfl)
  change wpList _ _ _ _ _ W2.drew
  go_wp2_with fail
  obtain ⟨W3, hW3⟩ : ∃ W, (((((W2.setCell ⟨q, 0, none⟩ (.int .i64 x.key.time)).setCell ⟨q, 1, none⟩ (.int .i64 x.key.source)).setCell ⟨q, 2, none⟩ (.int .i64 x.key.seq)).setCell ⟨q, 3, none⟩ (.int .i64 x.to)).setCell ⟨q, 4, none⟩ (.int .i64 x.value)) = W := ⟨_, rfl⟩
  have e8 : W3.drew.heap[q]? = some (.cells #[.int .i64 x.key.time, .int .i64 x.key.source, .int .i64 x.key.seq, .int .i64 x.to, .int .i64 x.value] 34 (0, 0)) := by rw [← hW3]; exact ev_set5 hbq.out _ _ _ _ _
  have f6 : Fr0 none' w W3.drew := by
    rw [← hW3]
    exact (F1.out.trans' (S' := fun k => k = q) ((((((Fr0.refl (fun k => k = q) W2).setCell (fun _ => rfl) _).setCell (fun _ => rfl) _).setCell (fun _ => rfl) _).setCell (fun _ => rfl) _).setCell (fun _ => rfl) _) (fun k hk e => by have := Hq.out; omega)).drew
  try rw [hW3]
  clear y0 y1 y2 y3 y4
  have y0 := cells_in e8 0
  have y1 := cells_in e8 1
  have y2 := cells_in e8 2
  have y3 := cells_in e8 3
  have y4 := cells_in e8 4
  simp at y0 y1 y2 y3 y4
  exact bodyPost_ret (v := .tuple #[evV x, .bool true]) (by simp [results, Try.results30, go_sem, y0, y1, y2, y3, y4, evV]) rfl ⟨rfl, f6⟩
/-- Find, on a queue. -/
theorem QIs.find {E : List Ev} {ft : Nat → Prop} (h : QIs w qb n T E ft) {nm : Int × Int} (h1 : I64 nm.1) (h2 : I64 nm.2) :
    Calls Try.prog 30 #[.pointer (some ⟨qb, 0, none⟩), .int .i64 nm.1, .int .i64 nm.2] w fun e w' => e = .returned (.tuple #[evV ((findE nm E).getD zeroEv), .bool (findE nm E).isSome]) ∧ Fr0 none' w w' := by
  obtain ⟨sb, pb, hb, ba, eb, mb, hv, X, F, P, first, V, hq, rfl, h3, h4⟩ := h
  cases hf : findE nm (X.map Prod.fst) with
  | none =>
    rw [findE_none] at hf
    exact QFind_none hq h1 h2 (fun y hy => hf _ (List.mem_map.2 ⟨y, hy, rfl⟩))
  | some x =>
    rw [findE_some hq.once] at hf
    obtain ⟨hm, hn⟩ := hf
    obtain ⟨y, hy, rfl⟩ := List.mem_map.1 hm
    subst hn
    exact QFind_some hq hy
end Go.Proofs.Ytmcgipilopfgoaa

/-
  The queue: Cancel.
-/
namespace Go.Proofs.Ytmcgipilopfgoaa
open Go Go.RowKit Go.ChangeMaps
attribute [local go_sem ↓] Go.wp_at_zero Go.wp_at_succ
attribute [local go_sem] Oper.semAt_some wide_fn wide_depth wide_fnR wide_depthR
variable {w : World} {qb sb pb hb ba eb mb n T : Nat} {hv : Value} {X : List Pd} {F : List Nat} {P : List Pl} {first : Int} {V : List Ev}


set_option maxRecDepth 100000 in
set_option maxHeartbeats 1000000 in
theorem QCancel_none {nm : Int × Int} (h : QIn w qb sb pb hb ba eb mb hv n T X F P first V) (h1 : I64 nm.1) (h2 : I64 nm.2) (hn : ∀ y ∈ X, y.1.name ≠ nm) :
    Calls Try.prog 22 #[.pointer (some ⟨qb, 0, none⟩), .int .i64 nm.1, .int .i64 nm.2] w fun e w' => e = .returned (.tuple #[evV zeroEv, .int .i64 6]) ∧ Fr0 none' w w' := by
  have H := Lib.hid h
  obtain ⟨kl, hkl⟩ := name_key_is h1 h2
  have HL := Lib.hid (fun W (hf : Fr0 none' w W) => (h.fr0 hf (fun _ _ h => h)).nm.none (Go.Maps.Keyed.of_law name_law) Try.underlying75 (zero_ref W) hn hkl)
  obtain ⟨za, hza⟩ : ∃ za : Int, (0 : Int) = za := ⟨_, rfl⟩
  have hrz : refV 0 0 = .agg #[.int .i64 za, .int .i64 za] := by rw [← hza]; rfl
  rw [hrz] at HL
  unfold nameV at HL
  clear h h1 h2 hkl hn hza hrz
  go_enter Try.func22, Try.ntmps22
  go_wp2_with fail
  obtain ⟨q, hq⟩ : ∃ q, w.heap.size = q := ⟨_, rfl⟩
  obtain ⟨W1, hW1⟩ : ∃ W, w.alloc (.cells #[.int .i64 0, .int .i64 0, .int .i64 0, .int .i64 0, .int .i64 0] 34) = W := ⟨_, rfl⟩
  have hbq := Lib.hid (show W1.heap[q]? = some (.cells #[.int .i64 0, .int .i64 0, .int .i64 0, .int .i64 0, .int .i64 0] 34 (0, 0)) by rw [← hW1, ← hq]; exact World.alloc_heap_new w _)
  have F1 := Lib.hid (show Fr0 none' w W1 by rw [← hW1]; exact (Fr0.refl _ _).alloc _)
  rw [hW1]
  try rw [hq]
  have Hq := Lib.hid hq
  clear hW1 hq
  have h1 := H.out.fr0 F1.out (fun _ _ h => h)
  have H1 := Lib.hid h1
  refine (qnone_is h1).mono ?_
  rintro e w1 ⟨rfl, rfl⟩
  clear h1
  have c3 := H1.out.c3
  have hl := HL.out W1 F1.out
  obtain ⟨W2, hW2⟩ : ∃ W2, W1.alloc (.cells #[.int .i64 za, .int .i64 za] 86) = W2 := ⟨_, rfl⟩
  have f2 : Fr0 none' w W2 := by rw [← hW2]; exact F1.out.alloc _
  have b2 : W2.heap[q]? = some (.cells #[.int .i64 0, .int .i64 0, .int .i64 0, .int .i64 0, .int .i64 0] 34 (0, 0)) := by rw [← hW2]; exact (Below.heap_alloc _ _ _ (Array.getElem?_eq_some_iff.1 hbq.out).1).trans hbq.out
  clear hbq F1
  have F1 := Lib.hid f2
  have hbq := Lib.hid b2
  clear f2 b2
  have t0 := thaw_in hbq.out 0
  have t1 := thaw_in hbq.out 1
  have t2 := thaw_in hbq.out 2
  have t3 := thaw_in hbq.out 3
  have t4 := thaw_in hbq.out 4
  have y0 := cells_in hbq.out 0
  have y1 := cells_in hbq.out 1
  have y2 := cells_in hbq.out 2
  have y3 := cells_in hbq.out 3
  have y4 := cells_in hbq.out 4
  simp at y0 y1 y2 y3 y4
  go_wp2_with fail
  clear hW2
  have e6 := ev_set5 hbq.out (.int .i64 0) (.int .i64 0) (.int .i64 0) (.int .i64 0) (.int .i64 0)
  have f6 : Fr0 none' w (((((W2.setCell ⟨q, 0, none⟩ (.int .i64 0)).setCell ⟨q, 1, none⟩ (.int .i64 0)).setCell ⟨q, 2, none⟩ (.int .i64 0)).setCell ⟨q, 3, none⟩ (.int .i64 0)).setCell ⟨q, 4, none⟩ (.int .i64 0)) := F1.out.trans' (S' := fun k => k = q) (((((Fr0.refl (fun k => k = q) W2).setCell (fun _ => rfl) _).setCell (fun _ => rfl) _).setCell (fun _ => rfl) _).setCell (fun _ => rfl) _ |>.setCell (fun _ => rfl) _) (fun k hk e => by have := Hq.out; omega)
  generalize (((((W2.setCell ⟨q, 0, none⟩ (.int .i64 0)).setCell ⟨q, 1, none⟩ (.int .i64 0)).setCell ⟨q, 2, none⟩ (.int .i64 0)).setCell ⟨q, 3, none⟩ (.int .i64 0)).setCell ⟨q, 4, none⟩ (.int .i64 0)) = VV at e6 f6 ⊢
  clear y0 y1 y2 y3 y4
  have y0 := cells_in e6 0
  have y1 := cells_in e6 1
  have y2 := cells_in e6 2
  have y3 := cells_in e6 3
  have y4 := cells_in e6 4
  simp at y0 y1 y2 y3 y4
  exact bodyPost_ret (v := .tuple #[evV zeroEv, .int .i64 6]) (by simp [results, Try.results22, go_sem, y0, y1, y2, y3, y4, evV, zeroEv]) rfl ⟨rfl, f6⟩
set_option maxRecDepth 100000 in
set_option maxHeartbeats 1000000 in
theorem QCancel_some {y : Pd} (h : QIn w qb sb pb hb ba eb mb hv n T X F P first V) (hy : y ∈ X) (hT : T < 4294967296) :
    Calls Try.prog 22 #[.pointer (some ⟨qb, 0, none⟩), .int .i64 y.1.key.source, .int .i64 y.1.key.seq] w fun e w' => e = .returned (.tuple #[evV y.1, .int .i64 0]) ∧ ∃ hv' F' P' first' V', QIn w' qb sb pb hb ba eb mb hv' n T (delX y.2 X) F' P' first' V' ∧ Fr0 (qfoot qb sb pb hb ba eb mb hv) w w' ∧ ∀ g, hv'.ownBlock = some g → hv.ownBlock = some g ∨ w.heap.size ≤ g := by
  have H := Lib.hid h
  obtain ⟨x, p⟩ := y
  obtain ⟨pl, hpl, _⟩ := h.ok.tk _ hy
  have Hpl := Lib.hid hpl
  have Hy := Lib.hid hy
  obtain ⟨hi1, hi2⟩ := rightE_i64 (h.right _ hy)
  obtain ⟨kl, hkl⟩ := name_key_is hi1 hi2
  have HL := Lib.hid (fun W (hf : Fr0 none' w W) => ((h.fr0 hf (fun _ _ h => h)).nm.look (Go.Maps.Keyed.of_law name_law) Try.underlying75 (zero_ref W) hy hkl).1)
  rw [lifeP_at hpl] at HL
  unfold nameV refV Ev.name at HL
  simp only at HL ⊢
  have hvx := h.vx _ hy
  have hpn : p < n := h.ok.xlt hy
  have Hvx := Lib.hid hvx
  have z1 : (0 : Int) ≤ (p : Int) := by omega
  have z2 : (p : Int) < (n : Int) := by omega
  simp only at hpl hvx
  clear h hkl hi1 hi2 hpl hvx hy
  go_enter Try.func22, Try.ntmps22
  go_wp2_with fail
  obtain ⟨q, hq⟩ : ∃ q, w.heap.size = q := ⟨_, rfl⟩
  obtain ⟨W1, hW1⟩ : ∃ W, w.alloc (.cells #[.int .i64 0, .int .i64 0, .int .i64 0, .int .i64 0, .int .i64 0] 34) = W := ⟨_, rfl⟩
  have hbq := Lib.hid (show W1.heap[q]? = some (.cells #[.int .i64 0, .int .i64 0, .int .i64 0, .int .i64 0, .int .i64 0] 34 (0, 0)) by rw [← hW1, ← hq]; exact World.alloc_heap_new w _)
  have F1 := Lib.hid (show Fr0 none' w W1 by rw [← hW1]; exact (Fr0.refl _ _).alloc _)
  rw [hW1]
  try rw [hq]
  have Hq := Lib.hid hq
  clear hW1 hq
  have h1 := H.out.fr0 F1.out (fun _ _ h => h)
  have H1 := Lib.hid h1
  refine (qnone_is h1).mono ?_
  rintro e w1 ⟨rfl, rfl⟩
  clear h1
  have c3 := H1.out.c3
  have hl := HL.out W1 F1.out
  obtain ⟨W2, hW2⟩ : ∃ W2, W1.alloc (.cells #[.int .i64 p, .int .i64 pl.life] 86) = W2 := ⟨_, rfl⟩
  have f12 : Fr0 none' W1 W2 := by rw [← hW2]; exact (Fr0.refl _ _).alloc _
  have f2 : Fr0 none' w W2 := F1.out.trans f12
  have b2 := (f12.block q (Array.getElem?_eq_some_iff.1 hbq.out).1 id).trans hbq.out
  have br2 : W2.heap[W1.heap.size]? = some (.cells #[.int .i64 p, .int .i64 pl.life] 86 (0, 0)) := by rw [← hW2]; exact World.alloc_heap_new W1 _
  have H2 := Lib.hid (H1.out.fr0 f12 (fun _ _ h => h))
  have BQ := Lib.hid hbq.out
  clear hbq F1
  have F1 := Lib.hid f2
  have hbq := Lib.hid b2
  have Br2 := Lib.hid br2
  obtain ⟨q2, hq2⟩ : ∃ q2, W1.heap.size = q2 := ⟨_, rfl⟩
  rw [hq2] at Br2
  have r0 := cells_in Br2.out 0
  have r1 := cells_in Br2.out 1
  simp at r0 r1
  have Hb2 := Lib.hid (show w.heap.size ≤ q ∧ q < W1.heap.size from ⟨by have := Hq.out; omega, by have := (Array.getElem?_eq_some_iff.1 BQ.out).1; exact this⟩)
  clear f2 b2 f12 br2
  have t0 := thaw_in hbq.out 0
  have t1 := thaw_in hbq.out 1
  have t2 := thaw_in hbq.out 2
  have t3 := thaw_in hbq.out 3
  have t4 := thaw_in hbq.out 4
  have y0 := cells_in hbq.out 0
  have y1 := cells_in hbq.out 1
  have y2 := cells_in hbq.out 2
  have y3 := cells_in hbq.out 3
  have y4 := cells_in hbq.out 4
  simp at y0 y1 y2 y3 y4
  go_wp2_with fail
  clear hW2
  have HRem := Lib.hid (Qremove_is H2.out Hy.out Hpl.out hT)
  simp only [evV] at HRem
  refine HRem.out.mono ?_
  rintro e W7 ⟨rfl, hv', hQ7, f57, own7⟩
  have hold : ∀ k, w.heap.size ≤ k → ¬ qfoot qb sb pb hb ba eb mb hv k := fun k hk hf => by have := H.out.lt k hf; omega
  have hb7 := Lib.hid ((f57.block q (Array.getElem?_eq_some_iff.1 hbq.out).1 (hold _ Hb2.out.1)).trans hbq.out)
  have F7 := Lib.hid ((F1.out.mono (fun _ _ h => h.elim)).trans f57)
  have own7 := Lib.hid (show ∀ g, hv'.ownBlock = some g → hv.ownBlock = some g ∨ W2.heap.size ≤ g from own7)
  have HQ7 := Lib.hid hQ7
  have hz2 := (Array.getElem?_eq_some_iff.1 hbq.out).1
  have Hz2 := Lib.hid hz2
  clear y0 y1 y2 y3 y4 t0 t1 t2 t3 t4 hz2 hQ7 f57 hold r0 r1
  have y0 := cells_in hb7.out 0
  have y1 := cells_in hb7.out 1
  have y2 := cells_in hb7.out 2
  have y3 := cells_in hb7.out 3
  have y4 := cells_in hb7.out 4
  simp at y0 y1 y2 y3 y4
  have t0 := thaw_in hb7.out 0
  have t1 := thaw_in hb7.out 1
  have t2 := thaw_in hb7.out 2
  have t3 := thaw_in hb7.out 3
  have t4 := thaw_in hb7.out 4
  go_wp2_with fail
  obtain ⟨W8, hW8⟩ : ∃ W, (((((W7.setCell ⟨q, 0, none⟩ (.int .i64 x.key.time)).setCell ⟨q, 1, none⟩ (.int .i64 x.key.source)).setCell ⟨q, 2, none⟩ (.int .i64 x.key.seq)).setCell ⟨q, 3, none⟩ (.int .i64 x.to)).setCell ⟨q, 4, none⟩ (.int .i64 x.value)) = W := ⟨_, rfl⟩
  try rw [hW8]
  have e8 : W8.heap[q]? = some (.cells #[.int .i64 x.key.time, .int .i64 x.key.source, .int .i64 x.key.seq, .int .i64 x.to, .int .i64 x.value] 34 (0, 0)) := by rw [← hW8]; exact ev_set5 hb7.out _ _ _ _ _
  have f78 : Fr0 (fun k => k = q) W7 W8 := by rw [← hW8]; exact (((((Fr0.refl (fun k => k = q) W7).setCell (fun _ => rfl) _).setCell (fun _ => rfl) _).setCell (fun _ => rfl) _).setCell (fun _ => rfl) _).setCell (fun _ => rfl) _
  have hQ8 := HQ7.out.fr0 f78 (fun k hk e => by
    have h1 : ∀ j, qfoot qb sb pb hb ba eb mb hv j → j ≠ q := fun j hj => by
      have := H.out.lt j hj
      have := Hb2.out.1
      omega
    rcases hk with h | h | h | h | h | h | h | h
    · exact h1 k (.inl h) e
    · exact h1 k (.inr (.inl h)) e
    · exact h1 k (.inr (.inr (.inl h))) e
    · exact h1 k (.inr (.inr (.inr (.inl h)))) e
    · exact h1 k (.inr (.inr (.inr (.inr (.inl h))))) e
    · exact h1 k (.inr (.inr (.inr (.inr (.inr (.inl h)))))) e
    · exact h1 k (.inr (.inr (.inr (.inr (.inr (.inr (.inl h))))))) e
    · rcases own7.out k h with g | g
      · exact h1 k (.inr (.inr (.inr (.inr (.inr (.inr (.inr g))))))) e
      · have := Hz2.out; omega)
  have f8 : Fr0 (qfoot qb sb pb hb ba eb mb hv) w W8 := F7.out.trans' f78 (fun k hk e => by have := Hb2.out.1; omega)
  have own8 : ∀ g, hv'.ownBlock = some g → hv.ownBlock = some g ∨ w.heap.size ≤ g := fun g hg => (own7.out g hg).imp id (fun h => Nat.le_trans F1.out.size h)
  clear y0 y1 y2 y3 y4
  have y0 := cells_in e8 0
  have y1 := cells_in e8 1
  have y2 := cells_in e8 2
  have y3 := cells_in e8 3
  have y4 := cells_in e8 4
  simp at y0 y1 y2 y3 y4
  exact bodyPost_ret (v := .tuple #[evV x, .int .i64 0]) (by simp [results, Try.results22, go_sem, y0, y1, y2, y3, y4, evV]) rfl ⟨rfl, hv', _, _, _, _, hQ8, f8, own8⟩
/-- Cancel, on a queue. -/
theorem QIs.cancel {E : List Ev} {ft : Nat → Prop} (h : QIs w qb n T E ft) {nm : Int × Int} (h1 : I64 nm.1) (h2 : I64 nm.2) (hT : T < 4294967296) :
    Calls Try.prog 22 #[.pointer (some ⟨qb, 0, none⟩), .int .i64 nm.1, .int .i64 nm.2] w fun e w' => e = .returned (.tuple #[evV ((findE nm E).getD zeroEv), .int .i64 (if (findE nm E).isSome then 0 else 6)]) ∧ QIs w' qb n T (delE nm E) (qgrow ft w w') ∧ Fr0 ft w w' := by
  obtain ⟨sb, pb, hb, ba, eb, mb, hv, X, F, P, first, V, hq, rfl, h3, h4⟩ := h
  cases hf : findE nm (X.map Prod.fst) with
  | none =>
    rw [findE_none] at hf
    rw [delE_none hf]
    refine (QCancel_none hq h1 h2 (fun y hy => hf _ (List.mem_map.2 ⟨y, hy, rfl⟩))).mono ?_
    rintro e w' ⟨rfl, hf⟩
    exact ⟨rfl, (hq.fr0 hf (fun _ _ h => h)).grown rfl h3 h4 hf.size (fun g hg => .inl hg), hf.mono (fun _ _ h => h.elim)⟩
  | some x =>
    rw [findE_some hq.once] at hf
    obtain ⟨hm, hn⟩ := hf
    obtain ⟨y, hy, rfl⟩ := List.mem_map.1 hm
    subst hn
    refine (QCancel_some hq hy hT).mono ?_
    rintro e w' ⟨rfl, hv', F', P', first', V', hq', hf', own⟩
    exact ⟨rfl, hq'.grown (delX_fst hq.once hq.ok.snd hy) h3 h4 hf'.size own, hf'.mono (fun k _ hk => h3 k hk)⟩
end Go.Proofs.Ytmcgipilopfgoaa

/-
  slices.IndexFunc at events.
-/
namespace Go.Proofs.Ytmcgipilopfgoaa
open Go Go.RowKit
attribute [local go_sem ↓] Go.wp_at_zero Go.wp_at_succ
attribute [local go_sem] Oper.semAt_some wide_fn wide_depth wide_fnR wide_depthR

/-- The first index of what is so; -1 if there is none. -/
def idxI (f : Ev → Bool) (L : List Ev) : Int := match L.findIdx? f with
  | some i => i
  | none => -1
theorem idxI_at {f : Ev → Bool} {L : List Ev} {k : Nat} {x : Ev} (h : ∀ y ∈ L.take k, f y = false) (hx : L[k]? = some x) (hf : f x = true) : idxI f L = k := by
  unfold idxI
  have : L.findIdx? f = some k := by
    rw [List.findIdx?_eq_some_iff_getElem]
    obtain ⟨hk, e⟩ := List.getElem?_eq_some_iff.1 hx
    refine ⟨hk, by rw [e]; exact hf, fun j hj => ?_⟩
    have hjl : j < L.length := by omega
    have := h L[j] (List.mem_take_iff_getElem.2 ⟨j, by omega, rfl⟩)
    simp [this]
  rw [this]
theorem idxI_none {f : Ev → Bool} {L : List Ev} (h : ∀ y ∈ L, f y = false) : idxI f L = -1 := by
  unfold idxI
  have : L.findIdx? f = none := by
    rw [List.findIdx?_eq_none_iff]
    exact h
  rw [this]
set_option maxRecDepth 100000 in
set_option maxHeartbeats 2000000 in
theorem IndexE {w : World} {a : Option Addr} {n cap : Nat} (L : List Ev) (h : EsIn w a L) (hl : L.length = n) (hn : n ≤ 1000000) (g : Nat) (lb : Array Value) (f : Ev → Bool)
    (eg : ∀ args w, (callFunc g args).run Try.prog w = .ok (.enter g args) w)
    (hf : ∀ x W, Fr0 none' w W → Calls Try.prog g (#[evV x] ++ lb) W fun e w' => e = .returned (.bool (f x)) ∧ Fr0 none' W w') :
    Calls Try.prog 25 #[.slice a n cap, .func (.func g) #[] lb] w fun e w' => e = .returned (.int .i64 (idxI f L)) ∧ Fr0 none' w w' := by
  obtain ⟨R, hR⟩ : ∃ R, idxI f L = R := ⟨_, rfl⟩
  rw [hR]
  have HR := Lib.hid hR
  have H := Lib.hid h
  have Hl := Lib.hid hl
  have Hf := Lib.hid hf
  clear h hl hf hR
  go_enter Try.func25, Try.ntmps25
  go_wp2_with fail
  go_loopw [5, 8] (fun _ i wr => ∃ k : Nat, k ≤ n ∧ i = .int .i64 k ∧ Hid (∀ y ∈ L.take k, f y = false) ∧ Hid (Fr0 none' w wr)) (fun _ i _ => n - (Go.RowKit.intOf i).toNat)
  case atStart => exact ⟨0, Nat.zero_le _, rfl, by unfold Hid; simp, Fr0.refl _ _⟩
  case round =>
    obtain ⟨k, hk, rfl, hpre, hfr⟩ := hrel
    by_cases hlt : k < n
    · obtain ⟨x, hx⟩ : ∃ x, L[k]? = some x := ⟨_, List.getElem?_eq_getElem (by rw [Hl.out]; exact hlt)⟩
      obtain ⟨g2, o, rfl, hxc⟩ := H.out k x hx
      obtain ⟨x0, x1, x2, x3, x4⟩ := hxc.later hfr.out
      have Hx := Lib.hid hx
      have k1 : (0 : Int) ≤ (k : Int) := by omega
      have k2 : (k : Int) < (n : Int) := by omega
      clear hx hxc
      go_wp2_with fail
      refine (Hf.out x wr hfr.out).mono ?_
      rintro e w2 ⟨rfl, hf2⟩
      have hfin := Lib.hid (hfr.out.trans hf2)
      cases hfx : f x
      · have hnext := Lib.hid (show ∀ y ∈ L.take (k + 1), f y = false from fun y hy => by
          rw [List.take_add_one, Hx.out, List.mem_append] at hy
          rcases hy with hy | hy
          · exact hpre.out y hy
          · simp at hy; subst hy; exact hfx)
        clear hf2 hfx
        go_wp2
        go_roundw
        case rel => exact ⟨k + 1, by omega, by go_num, hnext, hfin⟩
        case measure => simp [Go.RowKit.intOf]; omega
      · have hres := Lib.hid (show (k : Int) = R by rw [← HR.out]; exact (idxI_at hpre.out Hx.out hfx).symm)
        clear hf2 hfx
        go_wp2
        go_ret
        exact ⟨by rw [← hres.out]; rfl, hfin.out⟩
    · have hkn : k = n := by omega
      have hres := Lib.hid (show (-1 : Int) = R by rw [← HR.out]; exact (idxI_none (fun y hy => hpre.out y (by rw [List.take_of_length_le (by rw [Hl.out]; omega)]; exact hy))).symm)
      go_wp2
      go_ret
      exact ⟨by rw [← hres.out]; rfl, hfr.out⟩
end Go.Proofs.Ytmcgipilopfgoaa

/-
  The queue: check.
-/
namespace Go.Proofs.Ytmcgipilopfgoaa
open Go Go.RowKit Go.ChangeMaps
attribute [local go_sem ↓] Go.wp_at_zero Go.wp_at_succ
attribute [local go_sem] Oper.semAt_some wide_fn wide_depth wide_fnR wide_depthR

/-- Whether the event with an index has a name that is there. -/
def dupB (E l : List Ev) (i : Nat) : Bool := match l[i]? with
  | some x => (E ++ l.take i).any (fun y => y.name == x.name)
  | none => false
/-- The first index of an event with a name that is there; -1 if there is none. -/
def dupI (E l : List Ev) : Int := match (List.range l.length).find? (dupB E l) with
  | some i => i
  | none => -1
theorem dupI_at {E l : List Ev} {k : Nat} (hk : k < l.length) (h : ∀ i, i < k → dupB E l i = false) (hd : dupB E l k = true) : dupI E l = k := by
  unfold dupI
  have : (List.range l.length).find? (dupB E l) = some k := by
    rw [List.find?_range_eq_some]
    exact ⟨hd, List.mem_range.2 hk, fun j hj => by simp [h j hj]⟩
  rw [this]
theorem dupI_none {E l : List Ev} (h : ∀ i, i < l.length → dupB E l i = false) : dupI E l = -1 := by
  unfold dupI
  have : (List.range l.length).find? (dupB E l) = none := by
    rw [List.find?_eq_none]
    intro i hi
    rw [h i (List.mem_range.1 hi)]
    simp
  rw [this]
/-- What check tells. -/
def chkE (E l : List Ev) : Int × Int := if 0 ≤ idxI (fun x => !decide (RightE x)) l then (idxI (fun x => !decide (RightE x)) l, 100) else if 0 ≤ dupI E l then (dupI E l, 101) else (-1, 0)
theorem idxI_cases (f : Ev → Bool) (L : List Ev) : (idxI f L = -1 ∧ ∀ x ∈ L, f x = false) ∨ ∃ k : Nat, idxI f L = k ∧ k < L.length ∧ ∃ x, L[k]? = some x ∧ f x = true ∧ ∀ y ∈ L.take k, f y = false := by
  unfold idxI
  cases h : L.findIdx? f with
  | none =>
    rw [List.findIdx?_eq_none_iff] at h
    exact .inl ⟨rfl, h⟩
  | some k =>
    rw [List.findIdx?_eq_some_iff_getElem] at h
    obtain ⟨hk, h1, h2⟩ := h
    refine .inr ⟨k, rfl, hk, L[k], List.getElem?_eq_getElem hk, h1, fun y hy => ?_⟩
    obtain ⟨j, hj, rfl⟩ := List.mem_take_iff_getElem.1 hy
    have := h2 j (by omega)
    simpa using this
theorem dupI_cases (E l : List Ev) : (dupI E l = -1 ∧ ∀ i, i < l.length → dupB E l i = false) ∨ ∃ k : Nat, dupI E l = k ∧ k < l.length ∧ dupB E l k = true ∧ ∀ i, i < k → dupB E l i = false := by
  unfold dupI
  cases h : (List.range l.length).find? (dupB E l) with
  | none =>
    rw [List.find?_eq_none] at h
    exact .inl ⟨rfl, fun i hi => by simpa using h i (List.mem_range.2 hi)⟩
  | some k =>
    rw [List.find?_range_eq_some] at h
    exact .inr ⟨k, rfl, List.mem_range.1 h.2.1, h.1, fun i hi => by simpa using h.2.2 i hi⟩
/-- Where nothing is there twice, all names are different. -/
theorem dup_once {E l : List Ev} (hE : OnceE E) (h : ∀ i, i < l.length → dupB E l i = false) : OnceE (l ++ E) := by
  have key : ∀ k, k ≤ l.length → OnceE (l.take k ++ E) := by
    intro k
    induction k with
    | zero => intro _; simpa using hE
    | succ k ih =>
      intro hk
      have h1 := ih (by omega)
      obtain ⟨x, hx⟩ : ∃ x, l[k]? = some x := ⟨_, List.getElem?_eq_getElem (by omega)⟩
      have h2 := h k (by omega)
      unfold dupB at h2
      rw [hx] at h2
      simp only [List.any_append, Bool.or_eq_false_iff, List.any_eq_false, beq_iff_eq] at h2
      rw [List.take_add_one, hx]
      refine OnceE.perm (E := x :: (l.take k ++ E)) (once_cons.2 ⟨fun y hy => ?_, h1⟩) ?_
      · rcases List.mem_append.1 hy with hy | hy
        · exact h2.2 y hy
        · exact h2.1 y hy
      · simp only [Option.toList_some, List.append_assoc, List.singleton_append]
        exact List.perm_middle.symm
  have := key l.length (Nat.le_refl _)
  rwa [List.take_length] at this
section
variable {P : Program} {k t e : TypeId} {w : World} {b n : Nat} {c : Int × Int → Option Int}
theorem MetIs.put (h : MetIs P k w b n c) (K : Go.WideMaps.KeyLaw P k) (ht : P.underlying t = some (.map k e)) (hn : n < maxLen) {nm : Int × Int} {kl : Lit} (hk : keyOf P k (nameV nm) = some kl) (v : Int) :
    ∃ w', (Instr.mapUpdate t (.map (some b)) (nameV nm) (.int .i64 v)).run P w = .ok () w' ∧ MetIs P k w' b (n + 1) (fun m => if m = nm then some v else c m) ∧ Fr0 (fun j => j = b) w w' := by
  obtain ⟨D, h1, h2⟩ := h
  have hD := h1.tidy (Go.Maps.Keyed.of_law K)
  obtain ⟨w', hr, ho', hm⟩ := h1.store (Go.Maps.Keyed.of_law K) ht hn hk (show intR (.int .i64 v) = some (_, _) from rfl)
  have hg := hm.grown
  refine ⟨w', hr, ⟨_, ho', fun m kl' hk' => ?_⟩, ⟨hg.os, hg.tape, hg.output, hg.size, fun i hi hs => hg.block i hi (fun e => hs (Option.some.inj e))⟩⟩
  by_cases hm : m = nm
  · subst hm
    rw [hk] at hk'
    cases hk'
    simp only [if_pos rfl]
    exact ⟨Maps.has_put_same hD.isMap ((Go.Maps.Keyed.of_law K).key hk) _, Maps.atKey_put_same hD.isMap ((Go.Maps.Keyed.of_law K).key hk) _ _⟩
  · have hne : kl' ≠ kl := fun e => by
      subst e
      have := K.inj hk' hk
      unfold nameV at this
      simp only [Value.agg.injEq, Array.mk.injEq, List.cons.injEq, Value.int.injEq, true_and, and_true] at this
      exact hm (Prod.ext this.1 this.2)
    simp only [if_neg hm]
    rw [Maps.has_put_other hne, Maps.atKey_put_other hne]
    exact h2 m kl' hk'
end
variable {w : World} {qb sb pb hb ba eb mb n T : Nat} {hv : Value} {X : List Pd} {F : List Nat} {P : List Pl} {first : Int} {V : List Ev}
theorem QIn.looks (h : QIn w qb sb pb hb ba eb mb hv n T X F P first V) {nm : Int × Int} (h1 : I64 nm.1) (h2 : I64 nm.2) : ∃ pa pb : Int, ∀ W, Fr0 none' w W → (Instr.lookup 75 (.map (some mb)) (nameV nm) true).run Try.prog W = .ok (.tuple #[.agg #[.int .i64 pa, .int .i64 pb], .bool ((X.map Prod.fst).any (fun y => y.name == nm))]) W := by
  obtain ⟨kl, hkl⟩ := name_key_is h1 h2
  by_cases hx : ∃ y ∈ X, y.1.name = nm
  · obtain ⟨y, hy, rfl⟩ := hx
    have ha : (X.map Prod.fst).any (fun z => z.name == y.1.name) = true := by
      rw [List.any_eq_true]
      exact ⟨y.1, List.mem_map.2 ⟨y, hy, rfl⟩, by simp⟩
    rw [ha]
    exact ⟨_, _, fun W hf => ((h.fr0 hf (fun _ _ h => h)).nm.look (Go.Maps.Keyed.of_law name_law) Try.underlying75 (zero_ref W) hy hkl).1⟩
  · have hn : ∀ y ∈ X, y.1.name ≠ nm := fun y hy e => hx ⟨y, hy, e⟩
    have ha : (X.map Prod.fst).any (fun z => z.name == nm) = false := by
      rw [List.any_eq_false]
      intro z hz
      obtain ⟨y, hy, rfl⟩ := List.mem_map.1 hz
      simpa using hn y hy
    rw [ha]
    exact ⟨0, 0, fun W hf => (h.fr0 hf (fun _ _ h => h)).nm.none (Go.Maps.Keyed.of_law name_law) Try.underlying75 (zero_ref W) hn hkl⟩
theorem viaT' {T : Type} {P : Program} {c : Code} {K : Act → World → Prop} {Q : Exit → Act → World → Prop} {a : Act} {w : World} (F : T → World → Prop) (vs : T → List (Nat × Value))
    (t : ∀ q W, F q W → K ((vs q).foldl (fun a p => a.put (some p.1) p.2) a) W)
    (h : (∀ q W, F q W → K ((vs q).foldl (fun a p => a.put (some p.1) p.2) a) W) → c.wp P (Exit.then K Q) a w) : c.wp P (Exit.then K Q) a w := h t
set_option maxRecDepth 100000 in
theorem wrong_any (x : Ev) (w : World) : Calls Try.prog 58 #[evV x] w fun e w' => e = .returned (.bool (!decide (RightE x))) ∧ Fr0 none' w w' := by
  have HR := Lib.hid (QRight_is x)
  obtain ⟨b, hb⟩ : ∃ b, decide (RightE x) = b := ⟨_, rfl⟩
  rw [hb] at HR ⊢
  clear hb
  unfold evV at HR ⊢
  go_enter Try.func58, Try.ntmps58
  go_wp2_with fail
  refine (HR.out _).mono ?_
  rintro e w1 ⟨rfl, hf⟩
  go_wp2
  go_ret
  exact ⟨rfl, ((Fr0.refl none' w).alloc _).trans hf⟩
set_option maxRecDepth 100000 in
set_option maxHeartbeats 2000000 in
theorem Qcheck_is (h : QIn w qb sb pb hb ba eb mb hv n T X F P first V) {a : Option Addr} {m cap : Nat} (l : List Ev) (hl : EsIn w a l) (hm : l.length = m) (hm' : m ≤ 100000) :
    Calls Try.prog 45 #[.pointer (some ⟨qb, 0, none⟩), .slice a m cap] w fun e w' => e = .returned (.tuple #[.int .i64 (chkE (X.map Prod.fst) l).1, .int .i64 (chkE (X.map Prod.fst) l).2]) ∧ Fr0 none' w w' := by
  obtain ⟨R, hR⟩ : ∃ R, chkE (X.map Prod.fst) l = R := ⟨_, rfl⟩
  rw [hR]
  have HR := Lib.hid hR
  have H := Lib.hid h
  have Hl := Lib.hid hl
  have Hm := Lib.hid hm
  have HI := Lib.hid (IndexE (cap := cap) l hl hm (by omega) 58 #[] (fun x => !decide (RightE x)) (by intro args w; rfl) (fun x W _ => wrong_any x W))
  clear h hl hm hR
  rcases idxI_cases (fun x => !decide (RightE x)) l with ⟨hi, hall⟩ | ⟨k, hi, hkl, _⟩
  · rw [hi] at HI
    have HA := Lib.hid hall
    have HIe := Lib.hid hi
    clear hi hall
    go_enter Try.func45, Try.ntmps45
    go_wp2_with fail
    refine HI.out.mono ?_
    rintro e w1 ⟨rfl, hf1⟩
    have F1 := Lib.hid hf1
    clear hf1
    have hmm := @run_makeMap Try.prog
    go_wp2_with fail
    clear hmm
    obtain ⟨B, hB⟩ : ∃ B, w1.heap.size = B := ⟨_, rfl⟩
    obtain ⟨W2, hW2⟩ : ∃ W, w1.alloc (.map #[] 0) = W := ⟨_, rfl⟩
    have M2 := Lib.hid (show MetIs Try.prog 88 W2 B 0 (fun _ => none) by rw [← hW2, ← hB]; exact met_made w1)
    have F2 := Lib.hid (show Fr0 none' w W2 by rw [← hW2]; exact F1.out.alloc _)
    have HB := Lib.hid (show w.heap.size ≤ B by rw [← hB]; exact F1.out.size)
    rw [hW2]
    try rw [hB]
    clear hW2 hB
    go_loopw [8, 9, 10, 11, 12, 13, 22] (fun _ _ _ _ _ _ i wr => ∃ (k : Nat) (c : Int × Int → Option Int), k ≤ m ∧ i = .int .i64 k ∧ Hid (∀ i, i < k → dupB (X.map Prod.fst) l i = false) ∧ Hid (MetIs Try.prog 88 wr B k c) ∧ Hid (∀ nm, (c nm).isSome = (l.take k).any (fun y => y.name == nm)) ∧ Hid (Fr0 none' w wr)) (fun _ _ _ _ _ _ i _ => m - (Go.RowKit.intOf i).toNat)
    case atStart => exact ⟨0, _, Nat.zero_le _, rfl, (fun i hi => absurd hi (Nat.not_lt_zero i)), M2, (fun nm => by simp), F2⟩
    case round =>
      obtain ⟨k, c, hk, rfl, hpre, hmet, hcs, hfr⟩ := hrel
      by_cases hlt : k < m
      · obtain ⟨x, hx⟩ : ∃ x, l[k]? = some x := ⟨_, List.getElem?_eq_getElem (by rw [Hm.out]; exact hlt)⟩
        obtain ⟨g2, o, rfl, hxc⟩ := Hl.out k x hx
        obtain ⟨x0, x1, x2, x3, x4⟩ := hxc.later hfr.out
        have hre : RightE x := by simpa using HA.out x (List.mem_of_getElem? hx)
        have Hi64 := Lib.hid (rightE_i64 hre)
        have Hx := Lib.hid hx
        have k1 : (0 : Int) ≤ (k : Int) := by omega
        have k2 : (k : Int) < (m : Int) := by omega
        clear hx hxc hre
        go_wp2_with fail
        obtain ⟨q, hq⟩ : ∃ q, wr.heap.size = q := ⟨_, rfl⟩
        obtain ⟨W3, hW3⟩ : ∃ W, wr.alloc (.cells #[.int .i64 x.key.time, .int .i64 x.key.source, .int .i64 x.key.seq, .int .i64 x.to, .int .i64 x.value] 34) = W := ⟨_, rfl⟩
        have hb3 := Lib.hid (show W3.heap[q]? = some (.cells #[.int .i64 x.key.time, .int .i64 x.key.source, .int .i64 x.key.seq, .int .i64 x.to, .int .i64 x.value] 34 (0, 0)) by rw [← hW3, ← hq]; exact World.alloc_heap_new wr _)
        have F3r := Lib.hid (show Fr0 none' wr W3 by rw [← hW3]; exact (Fr0.refl _ _).alloc _)
        have XB := Lib.hid (show EAt W3 q 0 x by refine ⟨?_, ?_, ?_, ?_, ?_⟩ <;> rw [cells_in hb3.out] <;> rfl)
        rw [hW3]
        try rw [hq]
        clear hW3 hq x0 x1 x2 x3 x4
        have H3 := Lib.hid (H.out.fr0 (hfr.out.trans F3r.out) (fun _ _ h => h))
        have C3 := Lib.hid H3.out.c3
        obtain ⟨pa, pb, hlook⟩ := H3.out.looks Hi64.out.1 Hi64.out.2
        obtain ⟨th, hth⟩ : ∃ th, (X.map Prod.fst).any (fun y => y.name == x.name) = th := ⟨_, rfl⟩
        rw [hth] at hlook
        have HLook := Lib.hid hlook
        have Hth := Lib.hid hth
        clear hlook hth
        refine viaT' (T := Nat → Value) (fun _ W => Fr0 none' W3 W) (fun us => [(28, us 0), (29, us 1), (30, us 2), (31, us 3), (32, us 4), (33, us 5), (34, us 6), (27, us 7), (35, us 8), (36, us 9), (10, us 10), (11, .bool th)]) (fun us W hF => ?_) (fun hT => ?_)
        · simp only [List.foldl, Act.put, List.setIfInBounds_toArray, List.set_cons_zero, List.set_cons_succ]
          have F3 := Lib.hid ((hfr.out.trans F3r.out).trans hF)
          obtain ⟨kl, hkl⟩ := name_key_is Hi64.out.1 Hi64.out.2
          have Hkl := Lib.hid hkl
          have HM := Lib.hid (fun (W' : World) (hf : Fr0 none' W W') => (hmet.out.fr0 ((F3r.out.trans hF).trans hf) id))
          obtain ⟨ci, hci⟩ : ∃ ci, (c x.name).getD 0 = ci := ⟨_, rfl⟩
          obtain ⟨be, hbe⟩ : ∃ be, (c x.name).isSome = be := ⟨_, rfl⟩
          have HL2 := Lib.hid (fun (W' : World) (hf : Fr0 none' W W') => ((HM.out W' hf).look name_law Try.underlying115 (Try.zeroValue3 W') hkl).1)
          rw [hci, hbe] at HL2
          have Hbe := Lib.hid (show (l.take k).any (fun y => y.name == x.name) = be by rw [← hcs.out, hbe])
          obtain ⟨x0, x1, x2, x3, x4⟩ := XB.out.later hF
          simp only [Nat.zero_add] at x0 x1 x2 x3 x4
          have XB := Lib.hid (XB.out.later hF)
          have hdup := Lib.hid (show dupB (X.map Prod.fst) l k = (th || be) by
            unfold dupB
            rw [Hx.out]
            simp only [List.any_append]
            rw [Hth.out, Hbe.out])
          clear hkl hci hbe hF
          go_wp2_with fail
          refine (of_any x _).mono ?_
          rintro e w5 ⟨rfl, hf5⟩
          have hl2 := HL2.out w5 hf5
          obtain ⟨x0, x1, x2, x3, x4⟩ := XB.out.later hf5
          simp only [Nat.zero_add] at x0 x1 x2 x3 x4
          have XB := Lib.hid (XB.out.later hf5)
          have hM5 := Lib.hid (HM.out w5 hf5)
          have F5 := Lib.hid (F3.out.trans hf5)
          clear hf5 HM HL2
          cases th
          · cases be
            · go_wp2_with fail
              refine (of_any x _).mono ?_
              rintro e w6 ⟨rfl, hf6⟩
              obtain ⟨w7, hrun, hm7, hf7⟩ := (hM5.out.fr0 hf6 id).put name_law Try.underlying115 (by unfold maxLen; omega) Hkl.out (k : Int)
              have hm7 := Lib.hid hm7
              have F7 := Lib.hid ((F5.out.trans hf6).trans' hf7 (fun i hi e => by have := HB.out; omega))
              clear hf6 hf7 x0 x1 x2 x3 x4 hl2
              go_wp2_with fail
              clear hrun
              go_roundw
              case rel =>
                refine ⟨k + 1, _, by omega, by go_num, fun i hi => ?_, hm7, fun nm => ?_, F7⟩
                · by_cases e : i = k
                  · rw [e, hdup.out]; rfl
                  · exact hpre.out i (by omega)
                · rw [List.take_add_one, Hx.out]
                  simp only [Option.toList_some, List.any_append, List.any_cons, List.any_nil, Bool.or_false]
                  rw [← hcs.out nm]
                  by_cases e : nm = x.name
                  · rw [if_pos e]; simp [e]
                  · rw [if_neg e]
                    have : (x.name == nm) = false := by simpa using fun h => e h.symm
                    rw [this, Bool.or_false]
              case measure => simp [Go.RowKit.intOf]; omega
            · skip
              have hres := Lib.hid (show ((k : Int), (101 : Int)) = R by
                rw [← HR.out]
                unfold chkE
                rw [HIe.out, if_neg (by omega), dupI_at (by rw [Hm.out]; exact hlt) hpre.out (by rw [hdup.out]; simp), if_pos (by omega)])
              go_wp2_with fail
              go_ret2
              exact ⟨by rw [← hres.out]; rfl, F5.out⟩
          · skip
            have hres := Lib.hid (show ((k : Int), (101 : Int)) = R by
              rw [← HR.out]
              unfold chkE
              rw [HIe.out, if_neg (by omega), dupI_at (by rw [Hm.out]; exact hlt) hpre.out (by rw [hdup.out]; simp), if_pos (by omega)])
            go_wp2_with fail
            go_ret2
            exact ⟨by rw [← hres.out]; rfl, F5.out⟩
        · simp only [List.foldl, Act.put, List.setIfInBounds_toArray, List.set_cons_zero, List.set_cons_succ] at hT
          have HT := Lib.hid hT
          clear hT
          refine wp_region_held_drew (S := fun W' => Fr0 none' W3 W') (by kernel_rfl) ((Fr0.refl none' W3).drew) (fun hHeld => ?_)
          refine take_on (i := 0) (v := .pointer (some ⟨qb, 0, none⟩)) rfl (by kernel_rfl) (by kernel_rfl) (by kernel_rfl) (fun _ _ _ h => h) (by kernel_rfl) (fun W' hSW => ?_) (by assumption) ?_
          · (try dsimp only at hSW)
            first | (go_simp; done) | (have s0 := hSW.later C3.out; obtain ⟨s1, s2, s3, s4, s5⟩ := XB.out.later hSW; (try simp only [Nat.zero_add] at s1 s2 s3 s4 s5); (try simp only [evV]); go_simp; done) | (have hl := HLook.out W' hSW; go_simp; done) | exact rfl | (go_simp; rfl)
          try simp only [Act.put, List.setIfInBounds_toArray, List.set_cons_zero, List.set_cons_succ]
          refine take_on (i := 1) (v := .pointer (some ⟨qb, 0, none⟩)) rfl (by kernel_rfl) (by kernel_rfl) (by kernel_rfl) (fun _ _ _ h => h) (by kernel_rfl) (fun W' hSW => ?_) (by assumption) ?_
          · (try dsimp only at hSW)
            first | (go_simp; done) | (have s0 := hSW.later C3.out; obtain ⟨s1, s2, s3, s4, s5⟩ := XB.out.later hSW; (try simp only [Nat.zero_add] at s1 s2 s3 s4 s5); (try simp only [evV]); go_simp; done) | (have hl := HLook.out W' hSW; go_simp; done) | exact rfl | (go_simp; rfl)
          try simp only [Act.put, List.setIfInBounds_toArray, List.set_cons_zero, List.set_cons_succ]
          refine take_on (i := 2) (v := .pointer (some ⟨qb, 3, none⟩)) rfl (by kernel_rfl) (by kernel_rfl) (by kernel_rfl) (fun _ _ _ h => h) (by kernel_rfl) (fun W' hSW => ?_) (by assumption) ?_
          · (try dsimp only at hSW)
            first | (go_simp; done) | (have s0 := hSW.later C3.out; obtain ⟨s1, s2, s3, s4, s5⟩ := XB.out.later hSW; (try simp only [Nat.zero_add] at s1 s2 s3 s4 s5); (try simp only [evV]); go_simp; done) | (have hl := HLook.out W' hSW; go_simp; done) | exact rfl | (go_simp; rfl)
          try simp only [Act.put, List.setIfInBounds_toArray, List.set_cons_zero, List.set_cons_succ]
          refine take_on (i := 3) (v := .map (some mb)) rfl (by kernel_rfl) (by kernel_rfl) (by kernel_rfl) (fun _ _ _ h => h) (by kernel_rfl) (fun W' hSW => ?_) (by assumption) ?_
          · (try dsimp only at hSW)
            first | (go_simp; done) | (have s0 := hSW.later C3.out; obtain ⟨s1, s2, s3, s4, s5⟩ := XB.out.later hSW; (try simp only [Nat.zero_add] at s1 s2 s3 s4 s5); (try simp only [evV]); go_simp; done) | (have hl := HLook.out W' hSW; go_simp; done) | exact rfl | (go_simp; rfl)
          try simp only [Act.put, List.setIfInBounds_toArray, List.set_cons_zero, List.set_cons_succ]
          refine take_on (i := 4) (v := evV x) rfl (by kernel_rfl) (by kernel_rfl) (by kernel_rfl) (fun _ _ _ h => h) (by kernel_rfl) (fun W' hSW => ?_) (by assumption) ?_
          · (try dsimp only at hSW)
            first | (go_simp; done) | (have s0 := hSW.later C3.out; obtain ⟨s1, s2, s3, s4, s5⟩ := XB.out.later hSW; (try simp only [Nat.zero_add] at s1 s2 s3 s4 s5); (try simp only [evV]); go_simp; done) | (have hl := HLook.out W' hSW; go_simp; done) | exact rfl | (go_simp; rfl)
          try simp only [Act.put, List.setIfInBounds_toArray, List.set_cons_zero, List.set_cons_succ]
          refine wpAnyH_ready (rs := [5, 10]) (by kernel_rfl) (by simp) (AllReadyH.cons (op_at rfl) (fun K hK => ?_) (AllReadyH.cons (op_at rfl) (fun K hK => ?_) AllReadyH.nil))
          · rw [if_pos (by kernel_rfl)]
            go_simp
            refine (of_any x _).mono ?_
            rintro e w5 ⟨rfl, hf5⟩
            have G := Lib.hid (hHeld.trans hf5)
            refine hK.out _ _ G.out (fun hHeld => ?_)
            clear hK K
            try simp only [Act.put, List.setIfInBounds_toArray, List.set_cons_zero, List.set_cons_succ]
            refine take_on (i := 6) (v := .tuple #[.agg #[.int .i64 pa, .int .i64 pb], .bool th]) rfl (by kernel_rfl) (by kernel_rfl) (by kernel_rfl) (fun _ _ _ h => h) (by kernel_rfl) (fun W' hSW => ?_) (by assumption) ?_
            · (try dsimp only at hSW)
              first | (go_simp; done) | (have s0 := hSW.later C3.out; obtain ⟨s1, s2, s3, s4, s5⟩ := XB.out.later hSW; (try simp only [Nat.zero_add] at s1 s2 s3 s4 s5); (try simp only [evV]); go_simp; done) | (have hl := HLook.out W' hSW; go_simp; done) | exact rfl | (go_simp; rfl)
            try simp only [Act.put, List.setIfInBounds_toArray, List.set_cons_zero, List.set_cons_succ]
            refine take_on (i := 7) (v := .tuple #[.agg #[.int .i64 pa, .int .i64 pb], .bool th]) rfl (by kernel_rfl) (by kernel_rfl) (by kernel_rfl) (fun _ _ _ h => h) (by kernel_rfl) (fun W' hSW => ?_) (by assumption) ?_
            · (try dsimp only at hSW)
              first | (go_simp; done) | (have s0 := hSW.later C3.out; obtain ⟨s1, s2, s3, s4, s5⟩ := XB.out.later hSW; (try simp only [Nat.zero_add] at s1 s2 s3 s4 s5); (try simp only [evV]); go_simp; done) | (have hl := HLook.out W' hSW; go_simp; done) | exact rfl | (go_simp; rfl)
            try simp only [Act.put, List.setIfInBounds_toArray, List.set_cons_zero, List.set_cons_succ]
            refine take_on (i := 8) (v := .agg #[.int .i64 pa, .int .i64 pb]) rfl (by kernel_rfl) (by kernel_rfl) (by kernel_rfl) (fun _ _ _ h => h) (by kernel_rfl) (fun W' hSW => ?_) (by assumption) ?_
            · (try dsimp only at hSW)
              first | (go_simp; done) | (have s0 := hSW.later C3.out; obtain ⟨s1, s2, s3, s4, s5⟩ := XB.out.later hSW; (try simp only [Nat.zero_add] at s1 s2 s3 s4 s5); (try simp only [evV]); go_simp; done) | (have hl := HLook.out W' hSW; go_simp; done) | exact rfl | (go_simp; rfl)
            try simp only [Act.put, List.setIfInBounds_toArray, List.set_cons_zero, List.set_cons_succ]
            refine take_on (i := 9) (v := .bool th) rfl (by kernel_rfl) (by kernel_rfl) (by kernel_rfl) (fun _ _ _ h => h) (by kernel_rfl) (fun W' hSW => ?_) (by assumption) ?_
            · (try dsimp only at hSW)
              first | (go_simp; done) | (have s0 := hSW.later C3.out; obtain ⟨s1, s2, s3, s4, s5⟩ := XB.out.later hSW; (try simp only [Nat.zero_add] at s1 s2 s3 s4 s5); (try simp only [evV]); go_simp; done) | (have hl := HLook.out W' hSW; go_simp; done) | exact rfl | (go_simp; rfl)
            try simp only [Act.put, List.setIfInBounds_toArray, List.set_cons_zero, List.set_cons_succ]
            refine take_call (i := 10) rfl (by kernel_rfl) (by kernel_rfl) (fun K hK => ?_)
            go_simp
            obtain ⟨qa, hqa⟩ : ∃ qa, w5.heap.size = qa := ⟨_, rfl⟩
            obtain ⟨WA, hWA⟩ : ∃ W, (w5.alloc (.cells #[.int .i64 0, .int .i64 0] 86)) = W := ⟨_, rfl⟩
            have hbA := Lib.hid (show WA.heap[qa]? = some (.cells #[.int .i64 0, .int .i64 0] 86 (0, 0)) by rw [← hWA, ← hqa]; exact World.alloc_heap_new w5 _)
            have HQa := Lib.hid (show W3.heap.size ≤ qa by rw [← hqa]; exact hHeld.size)
            have G := Lib.hid (show Fr0 none' W3 WA by rw [← hWA]; exact (hHeld.alloc _))
            rw [hWA]
            try rw [hqa]
            clear hWA hqa
            refine hK.out _ _ G.out (fun hHeld => ?_)
            clear hK K
            try simp only [Act.put, List.setIfInBounds_toArray, List.set_cons_zero, List.set_cons_succ]
            refine take_call (i := 11) rfl (by kernel_rfl) (by kernel_rfl) (fun K hK => ?_)
            have r0 := cells_in hbA.out 0
            have r1 := cells_in hbA.out 1
            simp at r0 r1
            have t0 := thaw_in hbA.out 0
            have t1 := thaw_in hbA.out 1
            go_simp
            clear r0 r1 t0 t1
            have G := Lib.hid ((hHeld.setCell (b := qa) (o := 0) (fun h => absurd h (Nat.not_lt.2 HQa.out)) (.int .i64 pa)).setCell (b := qa) (o := 1) (fun h => absurd h (Nat.not_lt.2 HQa.out)) (.int .i64 pb))
            refine hK.out _ _ G.out (fun hHeld => ?_)
            clear hK K
            try simp only [Act.put, List.setIfInBounds_toArray, List.set_cons_zero, List.set_cons_succ]
            refine take_call (i := 12) rfl (by kernel_rfl) (by kernel_rfl) (fun K hK => ?_)
            go_simp
            have G := Lib.hid hHeld
            refine hK.out _ _ G.out (fun hHeld => ?_)
            clear hK K
            try simp only [Act.put, List.setIfInBounds_toArray, List.set_cons_zero, List.set_cons_succ]
            refine wpAnyH_done (by kernel_rfl) ?_ _
            exact HT.out (fun n => ([.pointer (some ⟨qb, 0, none⟩), .pointer (some ⟨qb, 0, none⟩), .pointer (some ⟨qb, 3, none⟩), .map (some mb), evV x, nameV x.name, .tuple #[.agg #[.int .i64 pa, .int .i64 pb], .bool th], .tuple #[.agg #[.int .i64 pa, .int .i64 pb], .bool th], .agg #[.int .i64 pa, .int .i64 pb], .bool th, .pointer (some ⟨qa, 0, none⟩)] : List Value).getD n undef) _ hHeld
          · rw [if_pos (by kernel_rfl)]
            go_simp
            clear hHeld
            have hHeld : Fr0 none' W3 W3 := Fr0.refl _ _
            obtain ⟨qa, hqa⟩ : ∃ qa, W3.heap.size = qa := ⟨_, rfl⟩
            obtain ⟨WA, hWA⟩ : ∃ W, (W3.alloc (.cells #[.int .i64 0, .int .i64 0] 86)).drew = W := ⟨_, rfl⟩
            have hbA := Lib.hid (show WA.heap[qa]? = some (.cells #[.int .i64 0, .int .i64 0] 86 (0, 0)) by rw [← hWA, ← hqa]; exact World.alloc_heap_new W3 _)
            have HQa := Lib.hid (show W3.heap.size ≤ qa by rw [← hqa]; exact hHeld.size)
            have G := Lib.hid (show Fr0 none' W3 WA by rw [← hWA]; exact (hHeld.alloc _).drew)
            rw [hWA]
            try rw [hqa]
            clear hWA hqa
            refine hK.out _ _ G.out (fun hHeld => ?_)
            clear hK K
            try simp only [Act.put, List.setIfInBounds_toArray, List.set_cons_zero, List.set_cons_succ]
            refine take_call (i := 5) rfl (by kernel_rfl) (by kernel_rfl) (fun K hK => ?_)
            go_simp
            refine (of_any x _).mono ?_
            rintro e w5 ⟨rfl, hf5⟩
            have hbA := Lib.hid ((hf5.block qa (Array.getElem?_eq_some_iff.1 hbA.out).1 id).trans hbA.out)
            have G := Lib.hid (hHeld.trans hf5)
            refine hK.out _ _ G.out (fun hHeld => ?_)
            clear hK K
            try simp only [Act.put, List.setIfInBounds_toArray, List.set_cons_zero, List.set_cons_succ]
            refine take_on (i := 6) (v := .tuple #[.agg #[.int .i64 pa, .int .i64 pb], .bool th]) rfl (by kernel_rfl) (by kernel_rfl) (by kernel_rfl) (fun _ _ _ h => h) (by kernel_rfl) (fun W' hSW => ?_) (by assumption) ?_
            · (try dsimp only at hSW)
              first | (go_simp; done) | (have s0 := hSW.later C3.out; obtain ⟨s1, s2, s3, s4, s5⟩ := XB.out.later hSW; (try simp only [Nat.zero_add] at s1 s2 s3 s4 s5); (try simp only [evV]); go_simp; done) | (have hl := HLook.out W' hSW; go_simp; done) | exact rfl | (go_simp; rfl)
            try simp only [Act.put, List.setIfInBounds_toArray, List.set_cons_zero, List.set_cons_succ]
            refine take_on (i := 7) (v := .tuple #[.agg #[.int .i64 pa, .int .i64 pb], .bool th]) rfl (by kernel_rfl) (by kernel_rfl) (by kernel_rfl) (fun _ _ _ h => h) (by kernel_rfl) (fun W' hSW => ?_) (by assumption) ?_
            · (try dsimp only at hSW)
              first | (go_simp; done) | (have s0 := hSW.later C3.out; obtain ⟨s1, s2, s3, s4, s5⟩ := XB.out.later hSW; (try simp only [Nat.zero_add] at s1 s2 s3 s4 s5); (try simp only [evV]); go_simp; done) | (have hl := HLook.out W' hSW; go_simp; done) | exact rfl | (go_simp; rfl)
            try simp only [Act.put, List.setIfInBounds_toArray, List.set_cons_zero, List.set_cons_succ]
            refine take_on (i := 8) (v := .agg #[.int .i64 pa, .int .i64 pb]) rfl (by kernel_rfl) (by kernel_rfl) (by kernel_rfl) (fun _ _ _ h => h) (by kernel_rfl) (fun W' hSW => ?_) (by assumption) ?_
            · (try dsimp only at hSW)
              first | (go_simp; done) | (have s0 := hSW.later C3.out; obtain ⟨s1, s2, s3, s4, s5⟩ := XB.out.later hSW; (try simp only [Nat.zero_add] at s1 s2 s3 s4 s5); (try simp only [evV]); go_simp; done) | (have hl := HLook.out W' hSW; go_simp; done) | exact rfl | (go_simp; rfl)
            try simp only [Act.put, List.setIfInBounds_toArray, List.set_cons_zero, List.set_cons_succ]
            refine take_on (i := 9) (v := .bool th) rfl (by kernel_rfl) (by kernel_rfl) (by kernel_rfl) (fun _ _ _ h => h) (by kernel_rfl) (fun W' hSW => ?_) (by assumption) ?_
            · (try dsimp only at hSW)
              first | (go_simp; done) | (have s0 := hSW.later C3.out; obtain ⟨s1, s2, s3, s4, s5⟩ := XB.out.later hSW; (try simp only [Nat.zero_add] at s1 s2 s3 s4 s5); (try simp only [evV]); go_simp; done) | (have hl := HLook.out W' hSW; go_simp; done) | exact rfl | (go_simp; rfl)
            try simp only [Act.put, List.setIfInBounds_toArray, List.set_cons_zero, List.set_cons_succ]
            refine take_call (i := 11) rfl (by kernel_rfl) (by kernel_rfl) (fun K hK => ?_)
            have r0 := cells_in hbA.out 0
            have r1 := cells_in hbA.out 1
            simp at r0 r1
            have t0 := thaw_in hbA.out 0
            have t1 := thaw_in hbA.out 1
            go_simp
            clear r0 r1 t0 t1
            have G := Lib.hid ((hHeld.setCell (b := qa) (o := 0) (fun h => absurd h (Nat.not_lt.2 HQa.out)) (.int .i64 pa)).setCell (b := qa) (o := 1) (fun h => absurd h (Nat.not_lt.2 HQa.out)) (.int .i64 pb))
            refine hK.out _ _ G.out (fun hHeld => ?_)
            clear hK K
            try simp only [Act.put, List.setIfInBounds_toArray, List.set_cons_zero, List.set_cons_succ]
            refine take_call (i := 12) rfl (by kernel_rfl) (by kernel_rfl) (fun K hK => ?_)
            go_simp
            have G := Lib.hid hHeld
            refine hK.out _ _ G.out (fun hHeld => ?_)
            clear hK K
            try simp only [Act.put, List.setIfInBounds_toArray, List.set_cons_zero, List.set_cons_succ]
            refine wpAnyH_done (by kernel_rfl) ?_ _
            exact HT.out (fun n => ([.pointer (some ⟨qb, 0, none⟩), .pointer (some ⟨qb, 0, none⟩), .pointer (some ⟨qb, 3, none⟩), .map (some mb), evV x, nameV x.name, .tuple #[.agg #[.int .i64 pa, .int .i64 pb], .bool th], .tuple #[.agg #[.int .i64 pa, .int .i64 pb], .bool th], .agg #[.int .i64 pa, .int .i64 pb], .bool th, .pointer (some ⟨qa, 0, none⟩)] : List Value).getD n undef) _ hHeld
      · have hkm : k = m := by omega
        have hres := Lib.hid (show ((-1 : Int), (0 : Int)) = R by
          rw [← HR.out]
          unfold chkE
          rw [HIe.out, if_neg (by omega), dupI_none (fun i hi => hpre.out i (by rw [Hm.out] at hi; omega)), if_neg (by omega)])
        go_wp2
        go_ret2
        exact ⟨by rw [← hres.out]; rfl, hfr.out⟩
  · rw [hi] at HI
    have hres := Lib.hid (show ((k : Int), (100 : Int)) = R by rw [← HR.out]; unfold chkE; rw [if_pos (by rw [hi]; omega), hi])
    have d1 : decide ((k : Int) ≥ 0) = true := decide_eq_true (by omega)
    have d2 : decide ((0 : Int) ≤ (k : Int)) = true := decide_eq_true (by omega)
    clear hi hkl
    go_enter Try.func45, Try.ntmps45
    go_wp2_with fail
    refine HI.out.mono ?_
    rintro e w1 ⟨rfl, hf1⟩
    go_wp2_with fail
    go_ret2
    exact ⟨by rw [← hres.out]; rfl, hf1⟩
end Go.Proofs.Ytmcgipilopfgoaa

/-
  The laws' helpers: at, made, events.
-/
namespace Go.Proofs.Ytmcgipilopfgoaa
open Go Go.RowKit Go.ChangeMaps
attribute [local go_sem ↓] Go.wp_at_zero Go.wp_at_succ
attribute [local go_sem] Oper.semAt_some wide_fn wide_depth wide_fnR wide_depthR

/-- An event in small numbers. -/
structure Sme where
  t : Int
  s : Int
  q : Int
  o : Int
deriving Inhabited
def Sme.ok (x : Sme) : Prop := (0 ≤ x.t ∧ x.t < 256) ∧ (0 ≤ x.s ∧ x.s < 256) ∧ (0 ≤ x.q ∧ x.q < 256) ∧ (0 ≤ x.o ∧ x.o < 256)
def smeV (x : Sme) : Value := .agg #[.int .u8 x.t, .int .u8 x.s, .int .u8 x.q, .int .u8 x.o]
/-- A slice of them. -/
def SmesAt (w : World) (v : Value) (xs : List Sme) : Prop := ∃ a cap, v = .slice a xs.length cap ∧ xs.length ≤ cap ∧ ∀ j x, xs[j]? = some x → x.ok ∧ ∃ g o, a = some ⟨g, o, none⟩ ∧ w.cell? ⟨g, o + j * 4, none⟩ = some (.int .u8 x.t) ∧ w.cell? ⟨g, o + j * 4 + 1, none⟩ = some (.int .u8 x.s) ∧ w.cell? ⟨g, o + j * 4 + 2, none⟩ = some (.int .u8 x.q) ∧ w.cell? ⟨g, o + j * 4 + 3, none⟩ = some (.int .u8 x.o)
theorem SmesAt.later {w w' : World} {v : Value} {xs : List Sme} (h : SmesAt w v xs) (hf : Fr0 none' w w') : SmesAt w' v xs := by
  obtain ⟨a, cap, h1, h2, h3⟩ := h
  refine ⟨a, cap, h1, h2, fun j x hj => ?_⟩
  obtain ⟨h4, g, o, h5, c0, c1, c2, c3⟩ := h3 j x hj
  exact ⟨h4, g, o, h5, hf.later c0, hf.later c1, hf.later c2, hf.later c3⟩
def madeE (x : Sme) : Ev := ⟨⟨x.t % 16, x.s % 5, x.q % 32⟩, 1 + x.o % 16, x.t - x.o⟩
theorem madeE_right {x : Sme} : RightE (madeE x) := by
  unfold RightE RightK madeE
  simp only
  omega
set_option maxRecDepth 100000 in
set_option maxHeartbeats 1000000 in
theorem made_any (x : Sme) (hx : x.ok) (w : World) : Calls Try.prog 39 #[smeV x] w fun e w' => e = .returned (evV (madeE x)) ∧ Fr0 none' w w' := by
  obtain ⟨⟨a1, a2⟩, ⟨b1, b2⟩, ⟨c1, c2⟩, d1, d2⟩ := hx
  obtain ⟨r, hr⟩ : ∃ r, madeE x = r := ⟨_, rfl⟩
  rw [hr]
  have HR := Lib.hid hr
  clear hr
  unfold smeV evV
  go_enter Try.func39, Try.ntmps39
  go_wp2_with fail
  obtain ⟨V, hV⟩ : ∃ V, ((w.alloc (.cells #[.int .u8 x.t, .int .u8 x.s, .int .u8 x.q, .int .u8 x.o] 80)).alloc (.cells #[.int .i64 (x.t % 16), .int .i64 (x.s % 5), .int .i64 (x.q % 32), .int .i64 (1 + x.o % 16), .int .i64 (x.t - x.o)] 34)) = V := ⟨_, rfl⟩
  have hf : Fr0 none' w V := by rw [← hV]; exact ((Fr0.refl _ _).alloc _).alloc _
  have hb : V.heap[w.heap.size + 1]? = some (.cells #[.int .i64 (x.t % 16), .int .i64 (x.s % 5), .int .i64 (x.q % 32), .int .i64 (1 + x.o % 16), .int .i64 (x.t - x.o)] 34 (0, 0)) := by
    rw [← hV]
    have := World.alloc_heap_new (w.alloc (.cells #[.int .u8 x.t, .int .u8 x.s, .int .u8 x.q, .int .u8 x.o] 80)) (.cells #[.int .i64 (x.t % 16), .int .i64 (x.s % 5), .int .i64 (x.q % 32), .int .i64 (1 + x.o % 16), .int .i64 (x.t - x.o)] 34)
    rwa [World.size_alloc] at this
  rw [hV]
  have y0 := cells_in hb 0
  have y1 := cells_in hb 1
  have y2 := cells_in hb 2
  have y3 := cells_in hb 3
  have y4 := cells_in hb 4
  simp at y0 y1 y2 y3 y4
  have hr := HR.out
  unfold madeE at hr
  subst hr
  exact bodyPost_ret (v := .agg #[.int .i64 (x.t % 16), .int .i64 (x.s % 5), .int .i64 (x.q % 32), .int .i64 (1 + x.o % 16), .int .i64 (x.t - x.o)]) (by simp [results, Try.results39, go_sem, y0, y1, y2, y3, y4]) rfl ⟨rfl, hf⟩
set_option maxRecDepth 100000 in
set_option maxHeartbeats 1000000 in
theorem at_any (a b c : Int) (w : World) : Calls Try.prog 36 #[.int .i64 a, .int .i64 b, .int .i64 c] w fun e w' => e = .returned (evV ⟨⟨a, b, c⟩, 1, 0⟩) ∧ Fr0 none' w w' := by
  unfold evV
  go_enter Try.func36, Try.ntmps36
  go_wp2_with fail
  obtain ⟨V, hV⟩ : ∃ V, (w.alloc (.cells #[.int .i64 a, .int .i64 b, .int .i64 c, .int .i64 1, .int .i64 0] 34)) = V := ⟨_, rfl⟩
  have hf : Fr0 none' w V := by rw [← hV]; exact (Fr0.refl _ _).alloc _
  have hb : V.heap[w.heap.size]? = some (.cells #[.int .i64 a, .int .i64 b, .int .i64 c, .int .i64 1, .int .i64 0] 34 (0, 0)) := by
    rw [← hV]
    exact World.alloc_heap_new w _
  rw [hV]
  have y0 := cells_in hb 0
  have y1 := cells_in hb 1
  have y2 := cells_in hb 2
  have y3 := cells_in hb 3
  have y4 := cells_in hb 4
  simp at y0 y1 y2 y3 y4
  exact bodyPost_ret (v := .agg #[.int .i64 a, .int .i64 b, .int .i64 c, .int .i64 1, .int .i64 0]) (by simp [results, Try.results36, go_sem, y0, y1, y2, y3, y4]) rfl ⟨rfl, hf⟩
/-- Of events with one name the first one. -/
def dedE (l : List Ev) : List Ev := l.foldl (fun acc e => if acc.any (fun y => y.name == e.name) then acc else acc ++ [e]) []
theorem dedE_snoc (l : List Ev) (x : Ev) : dedE (l ++ [x]) = if (dedE l).any (fun y => y.name == x.name) then dedE l else dedE l ++ [x] := by unfold dedE; rw [List.foldl_append]; rfl
theorem snoc_indE {p : List Ev → Prop} (h0 : p []) (hs : ∀ l x, p l → p (l ++ [x])) : ∀ (n : Nat) (l : List Ev), l.length = n → p l
  | 0, l, h => by rw [List.eq_nil_of_length_eq_zero h]; exact h0
  | n + 1, l, h => by
    rcases List.eq_nil_or_concat l with rfl | ⟨L, b, rfl⟩
    · exact h0
    · rw [List.concat_eq_append] at h ⊢
      exact hs L b (snoc_indE h0 hs n L (by simpa using h))
theorem dedE_once (l : List Ev) : OnceE (dedE l) := by
  refine snoc_indE (p := fun l => OnceE (dedE l)) (by simp [dedE, OnceE]) (fun l x ih => ?_) _ l rfl
  rw [dedE_snoc]
  split
  · exact ih
  · next h =>
    have h' : ∀ y ∈ dedE l, y.name ≠ x.name := by simpa using h
    exact OnceE.perm (once_cons.2 ⟨h', ih⟩) (List.perm_append_comm (l₁ := [x]))
theorem dedE_sub (l : List Ev) : ∀ x ∈ dedE l, x ∈ l := by
  refine snoc_indE (p := fun l => ∀ x ∈ dedE l, x ∈ l) (by simp [dedE]) (fun l x ih => ?_) _ l rfl
  rw [dedE_snoc]
  intro z hz
  split at hz
  · exact List.mem_append_left _ (ih z hz)
  · rcases List.mem_append.1 hz with h | h
    · exact List.mem_append_left _ (ih z h)
    · exact List.mem_append_right _ h
theorem dedE_le (l : List Ev) : (dedE l).length ≤ l.length := by
  refine snoc_indE (p := fun l => (dedE l).length ≤ l.length) (by simp [dedE]) (fun l x ih => ?_) _ l rfl
  rw [dedE_snoc]
  split
  · simp; omega
  · simp; omega
theorem dedE_any (l : List Ev) (nm : Int × Int) : (dedE l).any (fun y => y.name == nm) = l.any (fun y => y.name == nm) := by
  refine snoc_indE (p := fun l => (dedE l).any (fun y => y.name == nm) = l.any (fun y => y.name == nm)) (by simp [dedE]) (fun l x ih => ?_) _ l rfl
  rw [dedE_snoc, List.any_append, ← ih]
  simp only [List.any_cons, List.any_nil, Bool.or_false]
  split
  · next h =>
    by_cases e : x.name = nm
    · rw [e] at h
      rw [h]; simp
    · have : (x.name == nm) = false := by simpa using e
      rw [this, Bool.or_false]
  · rw [List.any_append]
    simp
/-- The events of small numbers. -/
def evsE (xs : List Sme) (most : Nat) : List Ev := dedE ((xs.take most).map madeE)
theorem evsE_right {xs : List Sme} {most : Nat} : ∀ x ∈ evsE xs most, RightE x := fun x hx => by
  have := dedE_sub _ x hx
  obtain ⟨y, _, rfl⟩ := List.mem_map.1 this
  exact madeE_right
theorem evsE_once (xs : List Sme) (most : Nat) : OnceE (evsE xs most) := dedE_once _
theorem evsE_le (xs : List Sme) (most : Nat) : (evsE xs most).length ≤ most := by
  have h1 := dedE_le ((xs.take most).map madeE)
  rw [List.length_map, List.length_take] at h1
  unfold evsE
  omega
def cntN (l : List Ev) (nm : Int × Int) : Nat := l.countP (fun y => y.name == nm)
theorem cntN_any (l : List Ev) (nm : Int × Int) : l.any (fun y => y.name == nm) = decide (cntN l nm ≠ 0) := by
  unfold cntN
  by_cases h : l.any (fun y => y.name == nm) = true
  · rw [h]
    have : 0 < l.countP (fun y => y.name == nm) := List.countP_pos_iff.2 (by simpa using h)
    exact (decide_eq_true (by omega)).symm
  · rw [Bool.not_eq_true] at h
    rw [h]
    have : l.countP (fun y => y.name == nm) = 0 := List.countP_eq_zero.2 (by simpa using h)
    exact (decide_eq_false (by omega)).symm
theorem cntN_snoc (l : List Ev) (x : Ev) (nm : Int × Int) : cntN (l ++ [x]) nm = cntN l nm + if nm = x.name then 1 else 0 := by
  unfold cntN
  rw [List.countP_append, List.countP_singleton]
  by_cases e : nm = x.name
  · simp [e]
  · rw [if_neg e, if_neg (by simpa using fun h => e h.symm)]
set_option maxRecDepth 100000 in
set_option maxHeartbeats 4000000 in
theorem events_any (xs : List Sme) (most : Nat) (hm : most ≤ 100) {v : Value} (w : World) (hv : SmesAt w v xs) :
    Calls Try.prog 11 #[v, .int .i64 most] w fun e w' => ∃ r, e = .returned r ∧ w'.ownsRow w.heap.size 34 5 r (evsE xs most).length (flatEv (evsE xs most)) ∧ Fr0 none' w w' := by
  obtain ⟨i0, hi, hz0, hz1, hz2⟩ := info_parts info_event0
  obtain ⟨a, cap, rfl, hcap, hxs⟩ := hv
  obtain ⟨n, hn⟩ : ∃ n, xs.length = n := ⟨_, rfl⟩
  rw [hn] at hcap ⊢
  have Hn := Lib.hid hn
  have Hxs := Lib.hid hxs
  clear hn hxs
  have hmm := @run_makeMap Try.prog
  go_enter Try.func11, Try.ntmps11
  go_wp2_with fail
  clear hmm
  obtain ⟨m, hmn⟩ : ∃ m, min n most = m := ⟨_, rfl⟩
  have e1 : (min (n : Int) (most : Int)) = (m : Int) := by omega
  rw [e1]
  have e2 : (m : Int).toNat = m := by omega
  have e3 : max (m : Int) 0 = (m : Int) := by omega
  rw [e2, e3]
  have Hm := Lib.hid hmn
  have hm1 : m ≤ 100 := by omega
  have hmcap : m ≤ cap := by omega
  have hmx : ∀ k, k < m → ∃ x, xs[k]? = some x := fun k hk => ⟨_, List.getElem?_eq_getElem (by have := Hn.out; omega)⟩
  have hev : evsE xs most = dedE ((xs.take m).map madeE) := by
    unfold evsE
    rw [← hmn, ← Hn.out, Nat.min_comm, ← List.take_eq_take_min]
  have Hmx := Lib.hid hmx
  have Hev := Lib.hid hev
  clear e1 e2 e3 hmn hmx hev
  obtain ⟨B, hB⟩ : ∃ B, w.heap.size = B := ⟨_, rfl⟩
  obtain ⟨W2, hW2⟩ : ∃ W, w.alloc (.map #[] 0) = W := ⟨_, rfl⟩
  have M2 := Lib.hid (show MetIs Try.prog 82 W2 B 0 (fun _ => none) by rw [← hW2, ← hB]; exact met_made w)
  have F2 := Lib.hid (show Fr0 none' w W2 by rw [← hW2]; exact (Fr0.refl _ _).alloc _)
  have HB := Lib.hid hB
  rw [hW2]
  try rw [hB]
  clear hW2 hB
  go_loopw [5, 8, 9, 10, 19] (fun v _ _ _ i wr => ∃ k : Nat, k ≤ m ∧ i = .int .i64 k ∧ Hid (wr.ownsRow (B + 1) 34 5 v (dedE ((xs.take k).map madeE)).length (flatEv (dedE ((xs.take k).map madeE)))) ∧ Hid (MetIs Try.prog 82 wr B k (fun nm => if cntN ((xs.take k).map madeE) nm = 0 then none else some (cntN ((xs.take k).map madeE) nm : Nat))) ∧ Hid (Fr0 none' w wr)) (fun _ _ _ _ i _ => m - (Go.RowKit.intOf i).toNat)
  case atStart => exact ⟨0, Nat.zero_le _, rfl, World.ownsRow_nil _ _ _ _, M2, F2⟩
  case round =>
    obtain ⟨k, hk, rfl, hrow, hmet, hfr⟩ := hrel
    by_cases hlt : k < m
    · obtain ⟨x, hx⟩ := Hmx.out k hlt
      obtain ⟨hok, g2, o, rfl, c0, c1, c2, c3⟩ := Hxs.out k x hx
      have x0 := hfr.out.later c0
      have x1 := hfr.out.later c1
      have x2 := hfr.out.later c2
      have x3 := hfr.out.later c3
      have Hx := Lib.hid hx
      have HM := Lib.hid (fun W => made_any x hok W)
      have HR := Lib.hid (rightE_i64 (madeE_right (x := x)))
      obtain ⟨y, hy⟩ : ∃ y, madeE x = y := ⟨_, rfl⟩
      rw [hy] at HM HR
      have Hy := Lib.hid hy
      simp only [smeV] at HM
      have k1 : (0 : Int) ≤ (k : Int) := by omega
      have k2 : (k : Int) < (m : Int) := by omega
      clear hx hok c0 c1 c2 c3 hy
      go_wp2_with fail
      refine (HM.out _).mono ?_
      rintro e w4 ⟨rfl, hf4⟩
      have F4 := Lib.hid (show Fr0 none' wr w4 from ((Fr0.refl none' wr).alloc _).trans hf4)
      clear x0 x1 x2 x3 hf4 HM
      simp only [evV]
      have HM4 := Lib.hid (hmet.out.fr0 F4.out id)
      go_wp2_with fail
      have hrow4 := Lib.hid (ownsRow_fr0 hrow.out F4.out (fun _ _ h => h))
      obtain ⟨q, hq⟩ : ∃ q, w4.heap.size = q := ⟨_, rfl⟩
      obtain ⟨W5, hW5⟩ : ∃ W, (w4.alloc (.cells #[.int .i64 y.key.time, .int .i64 y.key.source, .int .i64 y.key.seq, .int .i64 y.to, .int .i64 y.value] 34)).alloc (.cells #[.int .i64 y.key.source, .int .i64 y.key.seq] 82) = W := ⟨_, rfl⟩
      have F5 := Lib.hid (show Fr0 none' w4 W5 by rw [← hW5]; exact ((Fr0.refl none' w4).alloc _).alloc _)
      have hbE := Lib.hid (show W5.heap[q]? = some (.cells #[.int .i64 y.key.time, .int .i64 y.key.source, .int .i64 y.key.seq, .int .i64 y.to, .int .i64 y.value] 34 (0, 0)) by rw [← hW5, ← hq]; exact (((Fr0.refl none' (w4.alloc (.cells #[.int .i64 y.key.time, .int .i64 y.key.source, .int .i64 y.key.seq, .int .i64 y.to, .int .i64 y.value] 34))).alloc (.cells #[.int .i64 y.key.source, .int .i64 y.key.seq] 82)).block w4.heap.size (by rw [World.size_alloc]; omega) id).trans (World.alloc_heap_new w4 _))
      have hbN := Lib.hid (show W5.heap[q + 1]? = some (.cells #[.int .i64 y.key.source, .int .i64 y.key.seq] 82 (0, 0)) by
        rw [← hW5, ← hq]
        have := World.alloc_heap_new (w4.alloc (.cells #[.int .i64 y.key.time, .int .i64 y.key.source, .int .i64 y.key.seq, .int .i64 y.to, .int .i64 y.value] 34)) (.cells #[.int .i64 y.key.source, .int .i64 y.key.seq] 82)
        rwa [World.size_alloc] at this)
      have HqB := Lib.hid (show B < q by rw [← hq]; exact HM4.out.lt)
      rw [hW5]
      try rw [hq]
      clear hW5 hq
      have F5D := Lib.hid ((Fr0.refl none' W5).drew)
      obtain ⟨WD, hWD⟩ : ∃ W, W5.drew = W := ⟨_, rfl⟩
      rw [hWD] at F5D
      have HM5 := Lib.hid (HM4.out.fr0 (F5.out.trans F5D.out) id)
      have hbE := Lib.hid ((F5D.out.block q (Array.getElem?_eq_some_iff.1 hbE.out).1 id).trans hbE.out)
      have hbN := Lib.hid ((F5D.out.block (q + 1) (Array.getElem?_eq_some_iff.1 hbN.out).1 id).trans hbN.out)
      have F5 := Lib.hid (F5.out.trans F5D.out)
      clear F5D
      obtain ⟨kl, hkl⟩ := pair_key_is HR.out.1 HR.out.2
      obtain ⟨cn, hcn⟩ : ∃ cn, cntN ((xs.take k).map madeE) y.name = cn := ⟨_, rfl⟩
      have Hcn := Lib.hid hcn
      have hcl : cn ≤ k := by
        rw [← hcn]
        have h1 : cntN ((xs.take k).map madeE) y.name ≤ ((xs.take k).map madeE).length := List.countP_le_length
        rw [List.length_map, List.length_take] at h1
        omega
      obtain ⟨hlk, hup⟩ := (show _ ∧ _ from ⟨(HM5.out.look pair_law Try.underlying78 (Try.zeroValue3 WD) hkl).2, HM5.out.up pair_law Try.underlying78 (by unfold maxLen; omega) (fun u => Try.zeroValue3 u) hkl⟩)
      obtain ⟨o1, st, hr1, hl1, hup⟩ := hup
      obtain ⟨o2, hr2, hm2⟩ := hup ((cn : Int) + 1)
      have hcd : (if cn = 0 then none else some ((cn : Nat) : Int)).getD 0 = ((cn : Nat) : Int) := by
        split
        · next h => rw [h]; rfl
        · rfl
      simp only [hcn] at hlk hr1 hl1
      rw [hcd] at hlk hr1 hl1
      have hnv : nameV y.name = .agg #[.int .i64 y.key.source, .int .i64 y.key.seq] := rfl
      rw [hnv] at hlk hr1 hl1
      have Hm2 := Lib.hid hm2
      have Hkl := Lib.hid hkl
      have Hr1 := Lib.hid hr1
      have Hr2 := Lib.hid hr2
      have Hl1 := Lib.hid hl1
      have n0 := cells_in hbN.out 0
      have n1 := cells_in hbN.out 1
      simp at n0 n1
      have w1 : IntKind.i64.wrap ((cn : Int) + 1) = (cn : Int) + 1 := IntWalk.i64_in _ (by omega)
      clear hcn hcd hnv hm2 hup hkl hr1 hr2 hl1
      refine wp_region_Z (z := 6) (S := fun W' => W'.cell? ⟨q + 1, 0, none⟩ = some (.int .i64 y.key.source) ∧ W'.cell? ⟨q + 1, 1, none⟩ = some (.int .i64 y.key.seq) ∧ (Instr.lookup 78 (.map (some B)) (.agg #[.int .i64 y.key.source, .int .i64 y.key.seq]) false).run Try.prog W' = .ok (.int .i64 cn) W') (by kernel_rfl) ?_
      rw [hWD]
      clear hWD
      have hHeld : WD.cell? ⟨q + 1, 0, none⟩ = some (.int .i64 y.key.source) ∧ WD.cell? ⟨q + 1, 1, none⟩ = some (.int .i64 y.key.seq) ∧ (Instr.lookup 78 (.map (some B)) (.agg #[.int .i64 y.key.source, .int .i64 y.key.seq]) false).run Try.prog WD = .ok (.int .i64 cn) WD := ⟨n0, n1, hlk⟩
      clear n0 n1 hlk
      refine takeZ_on (i := 0) (v := .map (some B)) rfl (by kernel_rfl) (by kernel_rfl) (by kernel_rfl) (by kernel_rfl) (fun _ _ _ h => h) (by kernel_rfl) (fun W' hSW => ?_) (by assumption) ?_
      · obtain ⟨s1, s2, s3⟩ := hSW
        first | (go_simp; done) | exact rfl | (go_simp; rfl) | (go_simp; omega)
      try simp only [Act.put, List.setIfInBounds_toArray, List.set_cons_zero, List.set_cons_succ]
      refine takeZ_on (i := 1) (v := .agg #[.int .i64 y.key.source, .int .i64 y.key.seq]) rfl (by kernel_rfl) (by kernel_rfl) (by kernel_rfl) (by kernel_rfl) (fun _ _ _ h => h) (by kernel_rfl) (fun W' hSW => ?_) (by assumption) ?_
      · obtain ⟨s1, s2, s3⟩ := hSW
        first | (go_simp; done) | exact rfl | (go_simp; rfl) | (go_simp; omega)
      try simp only [Act.put, List.setIfInBounds_toArray, List.set_cons_zero, List.set_cons_succ]
      refine takeZ_on (i := 2) (v := .int .i64 cn) rfl (by kernel_rfl) (by kernel_rfl) (by kernel_rfl) (by kernel_rfl) (fun _ _ _ h => h) (by kernel_rfl) (fun W' hSW => ?_) (by assumption) ?_
      · obtain ⟨s1, s2, s3⟩ := hSW
        first | (go_simp; done) | exact rfl | (go_simp; rfl) | (go_simp; omega)
      try simp only [Act.put, List.setIfInBounds_toArray, List.set_cons_zero, List.set_cons_succ]
      refine takeZ_on (i := 3) (v := .int .i64 ((cn : Int) + 1)) rfl (by kernel_rfl) (by kernel_rfl) (by kernel_rfl) (by kernel_rfl) (fun _ _ _ h => h) (by kernel_rfl) (fun W' hSW => ?_) (by assumption) ?_
      · obtain ⟨s1, s2, s3⟩ := hSW
        first | (go_simp; done) | exact rfl | (go_simp; rfl) | (go_simp; omega)
      try simp only [Act.put, List.setIfInBounds_toArray, List.set_cons_zero, List.set_cons_succ]
      refine takeZ_call (i := 4) rfl (by kernel_rfl) (by kernel_rfl) (fun K hK => ?_)
      have hr1 := Hr1.out
      go_simp
      clear hr1
      obtain ⟨W6, hW6⟩ : ∃ W, setBlock WD B o1 = W := ⟨_, rfl⟩
      have F6 := Lib.hid (show Fr0 (fun j => j = B) WD W6 by rw [← hW6]; exact (Fr0.refl (fun j => j = B) WD).setBlock (fun _ => rfl) _)
      have hB6 : W6.heap[B]? = some o1 := by rw [← hW6]; exact setBlock_same (Array.getElem?_eq_getElem HM5.out.lt)
      rw [hW6]
      have hHeld6 : W6.cell? ⟨q + 1, 0, none⟩ = some (.int .i64 y.key.source) ∧ W6.cell? ⟨q + 1, 1, none⟩ = some (.int .i64 y.key.seq) ∧ (Instr.lookup 78 (.map (some B)) (.agg #[.int .i64 y.key.source, .int .i64 y.key.seq]) false).run Try.prog W6 = .ok (.int .i64 cn) W6 := by
        have hb := (F6.out.block (q + 1) (Array.getElem?_eq_some_iff.1 hbN.out).1 (fun e => by have := HqB.out; omega)).trans hbN.out
        refine ⟨?_, ?_, Hl1.out W6 hB6⟩
        · rw [cells_in hb]; rfl
        · rw [cells_in hb]; rfl
      have hr2 := Hr2.out W6 hB6
      have Hr2 := Lib.hid hr2
      clear hW6 hB6 hHeld hr2
      refine hK.out _ _ (.inr hHeld6) ?_
      clear hK K
      try simp only [Act.put, List.setIfInBounds_toArray, List.set_cons_zero, List.set_cons_succ]
      refine takeZ_call (i := 5) rfl (by kernel_rfl) (by kernel_rfl) (fun K hK => ?_)
      go_simp
      refine hK.out _ _ (.inr hHeld6) ?_
      clear hK K
      try simp only [Act.put, List.setIfInBounds_toArray, List.set_cons_zero, List.set_cons_succ]
      refine takeZ_call (i := 6) rfl (by kernel_rfl) (by kernel_rfl) (fun K hK => ?_)
      have hr2 := Hr2.out
      go_simp
      clear hr2
      obtain ⟨W7, hW7⟩ : ∃ W, setBlock W6 B o2 = W := ⟨_, rfl⟩
      have F7 := Lib.hid (show Fr0 (fun j => j = B) WD W7 by rw [← hW7]; exact F6.out.trans ((Fr0.refl (fun j => j = B) W6).setBlock (fun _ => rfl) _))
      have M7 := Lib.hid (Hm2.out W7 (by rw [← hW7]; exact setBlock_same (Array.getElem?_eq_getElem (Nat.lt_of_lt_of_le HM5.out.lt F6.out.size))))
      rw [hW7]
      clear hW7
      refine hK.out _ _ (.inl rfl) ?_
      clear hK K hHeld6
      try simp only [Act.put, List.setIfInBounds_toArray, List.set_cons_zero, List.set_cons_succ]
      refine wpAnyZ_done (by kernel_rfl) ?_ _
      have hbE7 := Lib.hid ((F7.out.block q (Array.getElem?_eq_some_iff.1 hbE.out).1 (fun e => by have := HqB.out; omega)).trans hbE.out)
      have hbN7 := Lib.hid ((F7.out.block (q + 1) (Array.getElem?_eq_some_iff.1 hbN.out).1 (fun e => by have := HqB.out; omega)).trans hbN.out)
      have hlk := (M7.out.look pair_law Try.underlying78 (Try.zeroValue3 W7) Hkl.out).2
      rw [if_pos rfl, show nameV y.name = .agg #[.int .i64 y.key.source, .int .i64 y.key.seq] from rfl] at hlk
      simp only [Option.getD_some] at hlk
      have n0 := cells_in hbN7.out 0
      have n1 := cells_in hbN7.out 1
      simp at n0 n1
      have Fw7 := Lib.hid (hfr.out.trans' (F4.out.trans F5.out |>.mono (fun _ _ h => h.elim) |>.trans F7.out) (fun i hi e => by have := HB.out; omega))
      have hrow7 := Lib.hid (ownsRow_fr0 (ownsRow_fr0 hrow4.out F5.out (fun _ _ h => h)) F7.out (fun g hg e => by have := (hrow4.out.lt g hg).1; omega))
      have htk : (xs.take (k + 1)).map madeE = (xs.take k).map madeE ++ [y] := by
        rw [List.take_add_one, Hx.out, ← Hy.out]
        simp
      have hded := dedE_snoc ((xs.take k).map madeE) y
      rw [← htk, dedE_any, cntN_any, Hcn.out] at hded
      have hcnt : ∀ nm, cntN ((xs.take (k + 1)).map madeE) nm = cntN ((xs.take k).map madeE) nm + if nm = y.name then 1 else 0 := fun nm => by rw [htk]; exact cntN_snoc _ _ _
      have hM7 := Lib.hid (show MetIs Try.prog 82 W7 B (k + 1) (fun nm => if cntN ((xs.take (k + 1)).map madeE) nm = 0 then none else some (cntN ((xs.take (k + 1)).map madeE) nm : Nat)) by
        have h1 := M7.out
        refine cast ?_ h1
        congr 1
        funext nm
        rw [hcnt nm]
        by_cases e : nm = y.name
        · subst e
          rw [if_pos rfl, if_pos rfl, Hcn.out, if_neg (by omega)]
          simp
        · rw [if_neg e, if_neg e, Nat.add_zero])
      clear hcnt M7
      have Hded := Lib.hid hded
      clear hded htk
      obtain ⟨cv, hcv⟩ : ∃ cv, (cn : Int) + 1 = cv := ⟨_, rfl⟩
      rw [hcv] at hlk
      try rw [hcv]
      by_cases hc0 : cn = 0
      · have d1 : (cv == 1) = true := by rw [← hcv, hc0]; rfl
        have Hc0 := Lib.hid hc0
        obtain ⟨va, vc, rfl, _, _⟩ := EsIn.of_own hrow7.out
        obtain ⟨kk, hkk⟩ : ∃ kk, (dedE ((xs.take k).map madeE)).length = kk := ⟨_, rfl⟩
        have Hkk := Lib.hid hkk
        have hkl : kk ≤ 100 := by
          rw [← hkk]
          have h1 := dedE_le ((xs.take k).map madeE)
          rw [List.length_map, List.length_take] at h1
          omega
        rw [hkk] at hrow7 ⊢
        have x0 := cells_in hbE7.out 0
        have x1 := cells_in hbE7.out 1
        have x2 := cells_in hbE7.out 2
        have x3 := cells_in hbE7.out 3
        have x4 := cells_in hbE7.out 4
        simp at x0 x1 x2 x3 x4
        have hsrc := Src.newRow (P := Try.prog) (size := 5) (tx := 28) (ty := 34) W7 Try.underlying28 1 1 (cev y) rfl (by simp [Value.oneCell', cev])
        simp only [cev] at hsrc
        have hbase : B + 1 ≤ W7.heap.size := hM7.out.lt
        clear hc0 hkk hcv
        go_wp2_with (at_builtin; refine wpList_append_k rfl _ _ 28 28 rfl (B + 1) 34 i0 (.agg #[.int .i64 0, .int .i64 0, .int .i64 0, .int .i64 0, .int .i64 0]) 5 40 Try.underlying28 hi hz0 hz1 hz2 rfl (by decide) (.slice va kk vc) kk _ rfl (ownsRow_fr0 hrow7.out ((Fr0.refl none' W7).alloc _) (fun _ _ h => h)) (.slice (some ⟨W7.heap.size, 0, none⟩) 1 1) 1 _ rfl hsrc (by unfold maxLen; omega) (by omega) (by simp; omega) ?_; intro v8 w8 hown hgrow hdr hob; have Hown := Lib.hid hown; have hfg : Fr0 (fun i => (Value.slice va kk vc).ownBlock = some i) W7 w8 := ((Fr0.refl _ W7).alloc _).grown hgrow (fun i hi _ => hi); have F8 := Lib.hid hfg; clear hown hgrow hdr hob x0 x1 x2 x3 x4 hfg hsrc hlk n0 n1)
        go_roundw
        case rel =>
          refine ⟨k + 1, by omega, by go_num, ?_, ?_, ?_⟩
          · have h1 := Hown.out
            have h2 := Hded.out
            rw [if_neg (by simp [Hc0.out])] at h2
            rw [h2, List.length_append, flatEv_append, flatEv_single]
            rw [← Hkk.out] at h1
            exact h1
          · exact hM7.out.fr0 F8.out (fun hs => by have := (hrow7.out.lt B hs).1; omega)
          · exact Fw7.out.trans' F8.out (fun i hi hs => by have := (hrow7.out.lt i hs).1; have := HB.out; omega)
        case measure => simp [Go.RowKit.intOf]; omega
      · have d1 : (cv == 1) = false := by simp; omega
        have Hc0 := Lib.hid hc0
        clear hc0 hcv
        go_wp2_with fail
        clear hlk n0 n1
        go_roundw
        case rel =>
          refine ⟨k + 1, by omega, by go_num, ?_, hM7.out, Fw7.out⟩
          have h2 := Hded.out
          rw [if_pos (by simpa using Hc0.out)] at h2
          rw [h2]
          exact hrow7.out
        case measure => simp [Go.RowKit.intOf]; omega
    · have hkm : k = m := by omega
      subst hkm
      go_wp2
      go_ret
      refine ⟨_, rfl, ?_, hfr.out⟩
      rw [Hev.out, HB.out]
      exact own_up hrow.out (Nat.le_succ _)
end Go.Proofs.Ytmcgipilopfgoaa

/-
  A slice of small numbers among the arguments; the row's post, the arguments read from below.
-/
namespace Go.Proofs.Ytmcgipilopfgoaa
open Go.ChangeShapes Go.WideShapes Go.ChangeAt Go.RowKit Go.Deep Go.Joins

theorem post_below2 {H : Type} {enc : TypeId × Value → H} {P : Program} {f : Func} {s : ChangeSpec} {apart fresh handsOn : Bool} {W W' : World} {args : Array Value} {v : Value} {ds gs : List (DataW H)} {before pa pv : List MemPlace}
    (hW : DataW.Whole enc P f.params.toList s.vars apart W args.toList ds gs before)
    (hres : ∀ (b : Nat) (sp : Nat → Bool) (hd : Bool), DataW.TrodAll enc P W' b sp hd f.resultTypes.toList (v.resultList f.resultTypes.size) (s.fn H (ds ++ gs)).results [])
    (hargs : DataW.TrodAll enc P W' 0 (fun b => decide (b < W.heap.size)) true f.params.toList args.toList (s.fn H (ds ++ gs)).args pa)
    (hvars : ∀ sp : Nat → Bool, (∀ p ∈ before, sp p.block = true) → DataW.TrodVars enc P W' sp s.vars (s.fn H (ds ++ gs)).vars pv)
    (hb : Below W.heap.size W W') :
    s.post enc P f apart fresh handsOn false W args v W' := by
  have hold : ∀ p ∈ before, (fun b => decide (b < W.heap.size)) p.block = true := fun p hp => by simpa using hW.lt p hp
  exact ⟨ds, gs, before, [], pa, pv, hW, hres _ _ _, hargs, hvars _ hold, hb.frame _, fun h => by cases h⟩
theorem laid_own : laidOutB Try.prog = true := by kernel_rfl
theorem own_knob : ownKnob Try.prog.godebug = none := by kernel_rfl

theorem list_of {α : Type} {P : Nat → α → Prop} : ∀ n, (∀ i, i < n → ∃ x, P i x) → ∃ xs : List α, xs.length = n ∧ ∀ j x, xs[j]? = some x → P j x
  | 0, _ => ⟨[], rfl, fun j x h => by simp at h⟩
  | n + 1, h => by
    obtain ⟨xs, hl, hx⟩ := list_of n (fun i hi => h i (by omega))
    obtain ⟨x, hp⟩ := h n (by omega)
    refine ⟨xs ++ [x], by simp [hl], fun j y hj => ?_⟩
    rcases Nat.lt_or_ge j xs.length with hjl | hjl
    · rw [List.getElem?_append_left hjl] at hj; exact hx j y hj
    · rw [List.getElem?_append_right hjl] at hj
      have : j - xs.length = 0 := by
        rcases Nat.eq_zero_or_pos (j - xs.length) with h0 | h0
        · exact h0
        · rw [List.getElem?_eq_none (by simp; omega)] at hj; cases hj
      rw [this] at hj
      simp at hj
      subst hj
      rw [show j = n by omega]; exact hp
theorem small_fields {H : Type} {enc : TypeId × Value → H} {w : World} {n : Nat} {v : Value} {y : DataW H × List MemPlace} (h : DataW.trod enc Try.prog w 0 (fun _ => true) true n 5 [v] = some y) : ∃ a, v = .int .u8 a ∧ 0 ≤ a ∧ a < 256 := by
  obtain ⟨a, h1, _, hw⟩ := DataW.trod_int Try.underlying5 h
  injection h1 with h1 _
  have := bounds_u8 hw
  exact ⟨a, h1, this.1, by omega⟩

set_option maxRecDepth 100000 in
/-- A slice of small numbers, opened. -/
theorem smalls_arg {base : Nat} {H : Type} {enc : TypeId × Value → H} {W : World} {v : Value} {d : DataW H} {ps : List MemPlace}
    (hval : Value.okWide Try.prog W .any base 22 v) (h : DataW.Trod enc Try.prog W 0 (fun _ => true) true 22 v d ps) : ∃ xs, SmesAt W v xs := by
  obtain ⟨A, n, cap, rfl⟩ := okWide_slice Try.underlying22 hval
  obtain ⟨fuel, hf⟩ := h
  rcases open_slice Try.underlying22 hf with ⟨hcs, _⟩ | ⟨a, len, cap', m, _, D, Pl, hcs, _, hl, hm, hz, _, hi⟩
  · simp [Value.cells] at hcs
    obtain ⟨rfl, rfl, rfl⟩ := hcs
    exact ⟨[], none, 0, rfl, Nat.le_refl _, fun j x hj => by simp at hj⟩
  · simp [Value.cells] at hcs
    obtain ⟨rfl, rfl, rfl⟩ := hcs
    have hmn : n ≤ m := by rw [hz]; split <;> omega
    have key : ∀ i, i < n → ∃ x : Sme, x.ok ∧ ∃ g o, a = ⟨g, o, none⟩ ∧ W.cell? ⟨g, o + i * 4, none⟩ = some (.int .u8 x.t) ∧ W.cell? ⟨g, o + i * 4 + 1, none⟩ = some (.int .u8 x.s) ∧ W.cell? ⟨g, o + i * 4 + 2, none⟩ = some (.int .u8 x.q) ∧ W.cell? ⟨g, o + i * 4 + 3, none⟩ = some (.int .u8 x.o) := fun i hin => by
      obtain ⟨cs, hc, ht⟩ := hi i (by omega)
      rw [show Try.prog.cellsOf 80 = 4 by kernel_rfl] at hc
      obtain ⟨ys, k, _, _, _, hyl, hfl⟩ := DataW.trod_struct Try.underlying80 ht
      obtain ⟨_, hcl, hat⟩ := World.cells?_some hc
      have hone : Try.prog.cellsOf 5 = 1 := by kernel_rfl
      match cs, hcl with
      | [v0, v1, v2, v3], _ =>
      have c0 := hat 0 (by omega)
      have c1 := hat 1 (by omega)
      have c2 := hat 2 (by omega)
      have c3 := hat 3 (by omega)
      have f0 : DataW.trod enc Try.prog W 0 (fun _ => true) true k 5 (([v0, v1, v2, v3].drop 0).take (Try.prog.cellsOf 5)) = ys[0]? := hfl 0 _ rfl
      have f1 : DataW.trod enc Try.prog W 0 (fun _ => true) true k 5 (([v0, v1, v2, v3].drop 1).take (Try.prog.cellsOf 5)) = ys[1]? := hfl 1 _ rfl
      have f2 : DataW.trod enc Try.prog W 0 (fun _ => true) true k 5 (([v0, v1, v2, v3].drop 2).take (Try.prog.cellsOf 5)) = ys[2]? := hfl 2 _ rfl
      have f3 : DataW.trod enc Try.prog W 0 (fun _ => true) true k 5 (([v0, v1, v2, v3].drop 3).take (Try.prog.cellsOf 5)) = ys[3]? := hfl 3 _ rfl
      rw [hone] at f0 f1 f2 f3
      have yl : ys.length = 4 := hyl
      have t0 : DataW.trod enc Try.prog W 0 (fun _ => true) true k 5 [v0] = some (ys[0]'(by omega)) := f0.trans (List.getElem?_eq_getElem _)
      have t1 : DataW.trod enc Try.prog W 0 (fun _ => true) true k 5 [v1] = some (ys[1]'(by omega)) := f1.trans (List.getElem?_eq_getElem _)
      have t2 : DataW.trod enc Try.prog W 0 (fun _ => true) true k 5 [v2] = some (ys[2]'(by omega)) := f2.trans (List.getElem?_eq_getElem _)
      have t3 : DataW.trod enc Try.prog W 0 (fun _ => true) true k 5 [v3] = some (ys[3]'(by omega)) := f3.trans (List.getElem?_eq_getElem _)
      obtain ⟨a0, rfl, l0, m0⟩ := small_fields t0
      obtain ⟨a1, rfl, l1, m1⟩ := small_fields t1
      obtain ⟨a2, rfl, l2, m2⟩ := small_fields t2
      obtain ⟨a3, rfl, l3, m3⟩ := small_fields t3
      obtain ⟨cs', hc', _⟩ := hi 0 (by omega)
      rw [show Try.prog.cellsOf 80 = 4 by kernel_rfl] at hc'
      obtain ⟨_, hcl', hat'⟩ := World.cells?_some hc'
      have z0 := hat' 0 (by omega)
      rw [List.getElem?_eq_getElem (by omega)] at z0
      obtain ⟨b, off, spot⟩ := a
      have hspot : spot = none := by simpa [Addr.add] using World.cell?_spot z0
      subst hspot
      rw [Addr.add_mid, Addr.add_mid] at c0 c1 c2 c3
      refine ⟨⟨a0, a1, a2, a3⟩, ⟨⟨l0, m0⟩, ⟨l1, m1⟩, ⟨l2, m2⟩, ⟨l3, m3⟩⟩, b, off, rfl, ?_, ?_, ?_, ?_⟩
      · exact c0
      · exact c1
      · exact c2
      · exact c3
    obtain ⟨xs, hxl, hx⟩ := list_of n key
    subst hxl
    refine ⟨xs, some a, cap, rfl, by simpa using hl, fun j x hj => ?_⟩
    obtain ⟨hok, g, o, rfl, q0, q1, q2, q3⟩ := hx j x hj
    exact ⟨hok, g, o, rfl, q0, q1, q2, q3⟩

set_option maxRecDepth 100000 in
/-- Small numbers by value, opened. -/
theorem small_arg {base : Nat} {H : Type} {enc : TypeId × Value → H} {W : World} {v : Value} {d : DataW H} {ps : List MemPlace}
    (hval : Value.okWide Try.prog W .any base 80 v) (h : DataW.Trod enc Try.prog W 0 (fun _ => true) true 80 v d ps) : ∃ x : Sme, x.ok ∧ v = smeV x := by
  obtain ⟨v0, v1, v2, v3, y0, y1, y2, y3, n, rfl, _, _, t0, t1, t2, t3⟩ := open_agg4 Try.underlying80 (by kernel_rfl) (by kernel_rfl) hval h
  obtain ⟨a0, rfl, l0, m0⟩ := small_fields t0
  obtain ⟨a1, rfl, l1, m1⟩ := small_fields t1
  obtain ⟨a2, rfl, l2, m2⟩ := small_fields t2
  obtain ⟨a3, rfl, l3, m3⟩ := small_fields t3
  exact ⟨⟨a0, a1, a2, a3⟩, ⟨⟨l0, m0⟩, ⟨l1, m1⟩, ⟨l2, m2⟩, ⟨l3, m3⟩⟩, rfl⟩
end Go.Proofs.Ytmcgipilopfgoaa

/-
  The queue: PutAll, Put.
-/
namespace Go.Proofs.Ytmcgipilopfgoaa
open Go Go.RowKit Go.ChangeMaps
attribute [local go_sem ↓] Go.wp_at_zero Go.wp_at_succ
attribute [local go_sem] Oper.semAt_some wide_fn wide_depth wide_fnR wide_depthR
variable {w w' : World} {qb n T : Nat} {E : List Ev} {ft : Nat → Prop}

/-- What PutAll tells; what it makes. -/
def allV (n : Nat) (E l : List Ev) : Int × Int := if (chkE E l).2 ≠ 0 then chkE E l else if n - E.length < l.length then (-1, 4) else (-1, 0)
def allE (n : Nat) (E l : List Ev) : List Ev := if (allV n E l).2 = 0 then putsE l E else E
theorem chkE_ok {E l : List Ev} (h : (chkE E l).2 = 0) : (∀ x ∈ l, RightE x) ∧ (∀ i, i < l.length → dupB E l i = false) ∧ chkE E l = (-1, 0) := by
  unfold chkE at h ⊢
  rcases idxI_cases (fun x => !decide (RightE x)) l with ⟨hi, hall⟩ | ⟨k, hi, _⟩
  · rw [hi, if_neg (by omega)] at h ⊢
    rcases dupI_cases E l with ⟨hd, hn⟩ | ⟨k, hd, _⟩
    · rw [hd, if_neg (by omega)]
      exact ⟨fun x hx => by simpa using hall x hx, hn, rfl⟩
    · rw [hd, if_pos (by omega)] at h
      exact absurd h (by simp)
  · rw [hi, if_pos (by omega)] at h
    exact absurd h (by simp)
theorem QIs.foot {ft' : Nat → Prop} (h : QIs w qb n T E ft) (hs : ∀ k, ft k → ft' k) (hl : ∀ k, ft' k → k < w.heap.size) : QIs w qb n T E ft' := by
  obtain ⟨sb, pb, hb, ba, eb, mb, hv, X, F, P, first, V, h1, h2, h3, h4⟩ := h
  exact ⟨sb, pb, hb, ba, eb, mb, hv, X, F, P, first, V, h1, h2, fun k hk => hs k (h3 k hk), hl⟩
theorem qgrow_refl (h : QIs w qb n T E ft) : QIs w qb n T E (qgrow ft w w) := h.foot (fun k hk => .inl hk) (fun k hk => hk.elim (h.lt k) (fun g => g.2))
theorem qgrow_trans {a b c : World} (hab : a.heap.size ≤ b.heap.size) (hbc : b.heap.size ≤ c.heap.size) {k : Nat} (h : qgrow (qgrow ft a b) b c k) : qgrow ft a c k := by
  rcases h with (h | h) | h
  · exact .inl h
  · exact .inr ⟨h.1, by omega⟩
  · exact .inr ⟨by omega, h.2⟩
theorem qgrow_lt {a b : World} (hab : a.heap.size ≤ b.heap.size) (hlt : ∀ k, ft k → k < a.heap.size) {k : Nat} (h : qgrow ft a b k) : k < b.heap.size := by
  rcases h with h | h
  · have := hlt k h; omega
  · exact h.2
theorem fr_grow {a b c : World} (h1 : Fr0 ft a b) (h2 : Fr0 (qgrow ft a b) b c) : Fr0 ft a c := h1.trans' h2 (fun k hk h => by
  rcases h with h | h
  · exact h
  · omega)
/-- Two acts, one behind the other. -/
theorem QIs.then {b c : World} {T' : Nat} {E' : List Ev} (h : QIs c qb n T' E' (qgrow (qgrow ft w b) b c)) (h1 : w.heap.size ≤ b.heap.size) (h2 : b.heap.size ≤ c.heap.size) (hlt : ∀ k, ft k → k < w.heap.size) : QIs c qb n T' E' (qgrow ft w c) :=
  h.foot (fun _ hk => qgrow_trans h1 h2 hk) (fun _ hk => qgrow_lt (Nat.le_trans h1 h2) hlt hk)
/-- A world that keeps a queue, ahead of an act. -/
theorem QIs.after {b c : World} {T' : Nat} {E' : List Ev} (h : QIs c qb n T' E' (qgrow ft b c)) (h1 : w.heap.size ≤ b.heap.size) (h2 : b.heap.size ≤ c.heap.size) (hlt : ∀ k, ft k → k < w.heap.size) : QIs c qb n T' E' (qgrow ft w c) :=
  h.foot (fun _ hk => hk.elim .inl (fun g => .inr ⟨by omega, g.2⟩)) (fun _ hk => qgrow_lt (Nat.le_trans h1 h2) hlt hk)
theorem QIs.isnt (h : QIs w qb n T E ft) : Calls Try.prog 40 #[.pointer (some ⟨qb, 0, none⟩)] w fun e w' => e = .returned (.bool false) ∧ w = w' := by
  obtain ⟨sb, pb, hb, ba, eb, mb, hv, X, F, P, first, V, h1, rfl, h3, h4⟩ := h
  exact qnone_is h1
theorem QIs.check (h : QIs w qb n T E ft) {a : Option Addr} {m cap : Nat} (l : List Ev) (hl : EsIn w a l) (hm : l.length = m) (hm' : m ≤ 100000) :
    Calls Try.prog 45 #[.pointer (some ⟨qb, 0, none⟩), .slice a m cap] w fun e w' => e = .returned (.tuple #[.int .i64 (chkE E l).1, .int .i64 (chkE E l).2]) ∧ Fr0 none' w w' := by
  obtain ⟨sb, pb, hb, ba, eb, mb, hv, X, F, P, first, V, h1, rfl, h3, h4⟩ := h
  exact Qcheck_is h1 l hl hm hm'
set_option maxRecDepth 100000 in
set_option maxHeartbeats 2000000 in
theorem QIs.putAll (h : QIs w qb n T E ft) {a : Option Addr} {m cap : Nat} (l : List Ev) (hl : EsIn w a l) (hm : l.length = m) (hm' : m ≤ 100000) (hT : T + m < 4294967295) (ha : ∀ g o s, a = some ⟨g, o, s⟩ → ¬ ft g) :
    Calls Try.prog 18 #[.pointer (some ⟨qb, 0, none⟩), .slice a m cap] w fun e w' => e = .returned (.tuple #[.int .i64 (allV n E l).1, .int .i64 (allV n E l).2]) ∧ QIs w' qb n (T + m) (allE n E l) (qgrow ft w w') ∧ Fr0 ft w w' := by
  obtain ⟨R, hR⟩ : ∃ R, allV n E l = R := ⟨_, rfl⟩
  have H := Lib.hid h
  have Hl := Lib.hid hl
  have Hm := Lib.hid hm
  have Ha := Lib.hid ha
  obtain ⟨C, hC⟩ : ∃ C, chkE E l = C := ⟨_, rfl⟩
  have HCk := Lib.hid (h.check l (cap := cap) hl hm hm')
  rw [hC] at HCk
  obtain ⟨ci, ce⟩ := C
  have hle := h.le
  unfold allE
  rw [hR]
  have HR := Lib.hid hR
  have HC := Lib.hid hC
  simp only at HCk
  by_cases hc0 : ce = 0
  · subst hc0
    obtain ⟨hr, hd, hc1⟩ := chkE_ok (E := E) (l := l) (by rw [hC])
    have d0 : ((0 : Int) != 0) = false := by simp
    have HRi := Lib.hid hr
    have HD := Lib.hid hd
    by_cases hroom : n - E.length < m
    · have hres : R = (-1, 4) := by rw [← hR]; unfold allV; rw [hC, if_neg (by simp), if_pos (by rw [hm]; exact hroom)]
      subst hres
      rw [if_neg (by simp)]
      have d1 : decide (((n - E.length : Nat) : Int) < (m : Int)) = true := decide_eq_true (by omega)
      have d2 : decide (n - E.length < m) = true := decide_eq_true hroom
      clear h hl hm ha hC hR hr hd hc1 hroom hle
      go_enter Try.func18, Try.ntmps18
      go_wp2_with fail
      refine H.out.isnt.mono ?_
      rintro e w1 ⟨rfl, rfl⟩
      go_wp2_with fail
      refine HCk.out.mono ?_
      rintro e w2 ⟨rfl, hf2⟩
      have H2 := Lib.hid (H.out.later hf2)
      have F2 := Lib.hid hf2
      clear hf2
      go_wp2_with fail
      refine H2.out.room.mono ?_
      rintro e w3 ⟨rfl, hf3⟩
      have F3 := Lib.hid (F2.out.trans hf3)
      clear hf3
      go_wp2_with fail
      go_ret2
      exact ⟨rfl, ((H.out.later F3.out).mono (Nat.le_add_right _ _)).foot (fun _ hk => .inl hk) (fun k hk => qgrow_lt F3.out.size H.out.lt hk), F3.out.mono (fun _ _ h => h.elim)⟩
    · have hres : R = (-1, 0) := by rw [← hR]; unfold allV; rw [hC, if_neg (by simp), if_neg (by rw [hm]; exact hroom)]
      subst hres
      rw [if_pos rfl]
      have d1 : decide (((n - E.length : Nat) : Int) < (m : Int)) = false := decide_eq_false (by omega)
      have d2 : decide (n - E.length < m) = false := decide_eq_false hroom
      have Hroom := Lib.hid hroom
      have Hle := Lib.hid hle
      clear h hl hm ha hC hR hr hd hc1 hroom hle
      go_enter Try.func18, Try.ntmps18
      go_wp2_with fail
      refine H.out.isnt.mono ?_
      rintro e w1 ⟨rfl, rfl⟩
      go_wp2_with fail
      refine HCk.out.mono ?_
      rintro e w2 ⟨rfl, hf2⟩
      have H2 := Lib.hid (H.out.later hf2)
      have F2 := Lib.hid hf2
      clear hf2
      go_wp2_with fail
      refine H2.out.room.mono ?_
      rintro e w3 ⟨rfl, hf3⟩
      have F3 := Lib.hid (F2.out.trans hf3)
      clear hf3
      go_wp2_with fail
      go_loopw [9, 29] (fun _ i wr => ∃ k : Nat, k ≤ m ∧ i = .int .i64 k ∧ Hid (QIs wr qb n (T + k) (putsE (l.take k) E) (qgrow ft w wr)) ∧ Hid (Fr0 ft w wr)) (fun _ i _ => m - (Go.RowKit.intOf i).toNat)
      case atStart => exact ⟨0, Nat.zero_le _, rfl, (H.out.later F3.out).foot (fun _ hk => .inl hk) (fun k hk => qgrow_lt F3.out.size H.out.lt hk), F3.out.mono (fun _ _ h => h.elim)⟩
      case round =>
        obtain ⟨k, hk, rfl, hq, hfr⟩ := hrel
        by_cases hlt : k < m
        · obtain ⟨x, hx⟩ : ∃ x, l[k]? = some x := ⟨_, List.getElem?_eq_getElem (by rw [Hm.out]; exact hlt)⟩
          have hlw := Hl.out.fr0 hfr.out Ha.out
          obtain ⟨g2, o, rfl, hxc⟩ := hlw k x hx
          obtain ⟨x0, x1, x2, x3, x4⟩ := hxc
          have hre := HRi.out x (List.mem_of_getElem? hx)
          have hsn : putsE (l.take (k + 1)) E = insE x (putsE (l.take k) E) := by rw [List.take_add_one, hx]; exact putsE_snoc _ _ _
          have hnm : ∀ y ∈ putsE (l.take k) E, y.name ≠ x.name := fun y hy => by
            have h2 := HD.out k (by rw [Hm.out]; exact hlt)
            unfold dupB at h2
            rw [hx] at h2
            simp only [List.any_append, Bool.or_eq_false_iff, List.any_eq_false, beq_iff_eq] at h2
            rcases putsE_mem.1 hy with hy | hy
            · exact h2.2 y hy
            · exact h2.1 y hy
          have hroom : (putsE (l.take k) E).length < n := by
            rw [putsE_length, List.length_take, Hm.out]
            have := Hroom.out
            have := Hle.out
            omega
          have HPt := Lib.hid (fun (W : World) (hf : Fr0 none' wr W) => (hq.out.later hf).put hre hnm (by omega) hroom)
          have Hsn := Lib.hid hsn
          have k1 : (0 : Int) ≤ (k : Int) := by omega
          have k2 : (k : Int) < (m : Int) := by omega
          clear hx hlw hre hsn hnm hroom
          unfold evV at HPt
          go_wp2_with fail
          refine (HPt.out _ ((Fr0.refl none' wr).alloc _)).mono ?_
          rintro e w5 ⟨rfl, hq5, hf5⟩
          have hs5 : wr.heap.size ≤ w5.heap.size := by have := hf5.size; rw [World.size_alloc] at this; omega
          have hq5 := Lib.hid ((hq5.after (w := wr) (by simp) hf5.size (fun k hk => hq.out.lt k hk)).then hfr.out.size hs5 H.out.lt)
          have hf5 := Lib.hid (fr_grow hfr.out (((Fr0.refl none' wr).alloc (.cells #[.int .i64 x.key.time, .int .i64 x.key.source, .int .i64 x.key.seq, .int .i64 x.to, .int .i64 x.value] 34)).mono (fun _ _ h => h.elim) |>.trans hf5))
          rw [← Hsn.out] at hq5
          clear x0 x1 x2 x3 x4
          go_wp2_with fail
          go_roundw
          case rel => exact ⟨k + 1, by omega, by go_num, hq5, hf5⟩
          case measure => simp [Go.RowKit.intOf]; omega
        · have hkm : k = m := by omega
          subst hkm
          rw [List.take_of_length_le (by rw [Hm.out]; exact Nat.le_refl _)] at hq
          go_wp2
          go_ret2
          exact ⟨rfl, hq.out, hfr.out⟩
  · have hres : R = (ci, ce) := by rw [← hR]; unfold allV; rw [hC, if_pos hc0]
    subst hres
    rw [if_neg hc0]
    have d0 : (ce != 0) = true := by simpa using hc0
    clear h hl hm ha hC hR hle hc0
    go_enter Try.func18, Try.ntmps18
    go_wp2_with fail
    refine H.out.isnt.mono ?_
    rintro e w1 ⟨rfl, rfl⟩
    go_wp2_with fail
    refine HCk.out.mono ?_
    rintro e w2 ⟨rfl, hf2⟩
    go_wp2_with fail
    go_ret2
    exact ⟨rfl, ((H.out.later hf2).mono (Nat.le_add_right _ _)).foot (fun _ hk => .inl hk) (fun k hk => qgrow_lt hf2.size H.out.lt hk), hf2.mono (fun _ _ h => h.elim)⟩
set_option maxRecDepth 100000 in
set_option maxHeartbeats 2000000 in
theorem QIs.put1 (h : QIs w qb n T E ft) (x : Ev) (hT : T + 1 < 4294967295) :
    Calls Try.prog 13 #[.pointer (some ⟨qb, 0, none⟩), evV x] w fun e w' => e = .returned (.int .i64 (allV n E [x]).2) ∧ QIs w' qb n (T + 1) (allE n E [x]) (qgrow ft w w') ∧ Fr0 ft w w' := by
  have H := Lib.hid h
  obtain ⟨R, hR⟩ : ∃ R, allV n E [x] = R := ⟨_, rfl⟩
  obtain ⟨E', hE'⟩ : ∃ E', allE n E [x] = E' := ⟨_, rfl⟩
  rw [hR, hE']
  have HR := Lib.hid hR
  have HE := Lib.hid hE'
  clear h hR hE'
  unfold evV
  go_enter Try.func13, Try.ntmps13
  go_wp2_with fail
  obtain ⟨W1, hW1⟩ : ∃ W, ((w.alloc (.cells #[.int .i64 x.key.time, .int .i64 x.key.source, .int .i64 x.key.seq, .int .i64 x.to, .int .i64 x.value] 34)).alloc (.cells #[.int .i64 x.key.time, .int .i64 x.key.source, .int .i64 x.key.seq, .int .i64 x.to, .int .i64 x.value] 34)) = W := ⟨_, rfl⟩
  have f1 : Fr0 none' w W1 := by rw [← hW1]; exact ((Fr0.refl _ _).alloc _).alloc _
  have hl1 : EsIn W1 (some ⟨w.heap.size + 1, 0, none⟩) [x] := by
    rw [← hW1]
    have := World.alloc_heap_new (w.alloc (.cells #[.int .i64 x.key.time, .int .i64 x.key.source, .int .i64 x.key.seq, .int .i64 x.to, .int .i64 x.value] 34)) (.cells #[.int .i64 x.key.time, .int .i64 x.key.source, .int .i64 x.key.seq, .int .i64 x.to, .int .i64 x.value] 34)
    rw [World.size_alloc] at this
    exact EsIn.of_cells (n := 1) this (by simp [flatEv, cev])
  rw [hW1]
  refine ((H.out.later f1).putAll (m := 1) (cap := 1) [x] hl1 rfl (by omega) hT (fun g o s e => by
    have e1 : w.heap.size + 1 = g := by injection e with e; injection e
    intro hg
    have := H.out.lt g hg
    omega)).mono ?_
  rintro e w2 ⟨rfl, hq2, hf2⟩
  rw [HE.out] at hq2
  rw [HR.out]
  have hq2 := Lib.hid (hq2.after f1.size hf2.size H.out.lt)
  have hf2 := Lib.hid ((f1.mono (fun _ _ h => h.elim)).trans hf2)
  clear hW1 f1 hl1
  go_wp2_with fail
  go_ret
  exact ⟨rfl, hq2.out, hf2.out⟩
end Go.Proofs.Ytmcgipilopfgoaa

/-
  The queue: TakeBefore, Clear.
-/
namespace Go.Proofs.Ytmcgipilopfgoaa
open Go Go.RowKit Go.ChangeMaps
attribute [local go_sem ↓] Go.wp_at_zero Go.wp_at_succ
attribute [local go_sem] Oper.semAt_some wide_fn wide_depth wide_fnR wide_depthR
variable {w w' : World} {qb n T : Nat} {E : List Ev} {ft : Nat → Prop}

set_option maxRecDepth 100000 in
set_option maxHeartbeats 2000000 in
theorem QIs.clear (h : QIs w qb n T E ft) (hT : T < 4294967296) :
    Calls Try.prog 33 #[.pointer (some ⟨qb, 0, none⟩)] w fun e w' => e = .returned (.tuple #[.int .i64 (E.length : Nat), .int .i64 0]) ∧ QIs w' qb n T [] (qgrow ft w w') ∧ Fr0 ft w w' := by
  have H := Lib.hid h
  obtain ⟨m, hm⟩ : ∃ m, E.length = m := ⟨_, rfl⟩
  have HL := Lib.hid h.len
  rw [hm] at HL ⊢
  have Hm := Lib.hid hm
  have hm' : m ≤ 256 := by have := h.le; omega
  clear h hm
  go_enter Try.func33, Try.ntmps33
  go_wp2_with fail
  refine H.out.isnt.mono ?_
  rintro e w1 ⟨rfl, rfl⟩
  go_wp2_with fail
  refine HL.out.mono ?_
  rintro e w1 ⟨rfl, rfl⟩
  go_wp2_with fail
  go_loopw [10] (fun i wr => ∃ k : Nat, k ≤ m ∧ i = .int .i64 k ∧ Hid (QIs wr qb n T (E.drop k) (qgrow ft w wr)) ∧ Hid (Fr0 ft w wr)) (fun i _ => m - (Go.RowKit.intOf i).toNat)
  case atStart => exact ⟨0, Nat.zero_le _, rfl, qgrow_refl H.out, Fr0.refl _ _⟩
  case round =>
    obtain ⟨k, hk, rfl, hq, hfr⟩ := hrel
    by_cases hlt : k < m
    · have k1 : (0 : Int) ≤ (k : Int) := by omega
      have k2 : (k : Int) < (m : Int) := by omega
      go_wp2_with fail
      refine (hq.out.take hT).mono ?_
      rintro e w5 ⟨rfl, hq5, hf5⟩
      rw [List.tail_drop] at hq5
      have hq5 := Lib.hid (hq5.then hfr.out.size hf5.size H.out.lt)
      have hf5 := Lib.hid (fr_grow hfr.out hf5)
      go_wp2_with fail
      go_roundw
      case rel => exact ⟨k + 1, by omega, by go_num, hq5, hf5⟩
      case measure => simp [Go.RowKit.intOf]; omega
    · have hkm : k = m := by omega
      subst hkm
      rw [List.drop_of_length_le (by rw [Hm.out]; exact Nat.le_refl _)] at hq
      go_wp2
      go_ret2
      exact ⟨rfl, hq.out, hfr.out⟩
theorem bef_cut {t : Int} {E : List Ev} {k : Nat} (h : AscE E) (h1 : ∀ y ∈ E.take k, y.key.time < t) (h2 : ∀ y, E[k]? = some y → ¬ y.key.time < t) : befE t E = E.take k ∧ aftE t E = E.drop k := by
  have hb1 : befE t (E.take k) = E.take k := List.filter_eq_self.2 (fun y hy => by simpa using h1 y hy)
  have ha1 : aftE t (E.take k) = [] := List.filter_eq_nil_iff.2 (fun y hy => by simpa using h1 y hy)
  have hd : befE t (E.drop k) = [] ∧ aftE t (E.drop k) = E.drop k := by
    cases hE : E.drop k with
    | nil => exact ⟨rfl, rfl⟩
    | cons y r =>
      refine befE_stop ?_ (h2 y ?_)
      · rw [← hE]; exact asc_sub h (List.drop_sublist _ _)
      · have : (E.drop k)[0]? = some y := by rw [hE]; rfl
        rwa [List.getElem?_drop, Nat.add_zero] at this
  have e1 : befE t E = befE t (E.take k) ++ befE t (E.drop k) := by
    unfold befE
    rw [← List.filter_append, List.take_append_drop]
  have e2 : aftE t E = aftE t (E.take k) ++ aftE t (E.drop k) := by
    unfold aftE
    rw [← List.filter_append, List.take_append_drop]
  rw [e1, e2, hb1, ha1, hd.1, hd.2, List.append_nil, List.nil_append]
  exact ⟨rfl, rfl⟩
/-- What TakeBefore leaves. -/
def BefPost (w : World) (qb n T : Nat) (E : List Ev) (ft : Nat → Prop) (t : Int) (e : Ending) (w' : World) : Prop :=
  ∃ v ft', e = .returned v ∧ w'.ownsRow w.heap.size 34 5 v (befE t E).length (flatEv (befE t E)) ∧ QIs w' qb n T (aftE t E) ft' ∧ (∀ k, ft' k → ft k ∨ w.heap.size ≤ k) ∧ (∀ g, v.ownBlock = some g → ¬ ft' g) ∧ Fr0 ft w w'
set_option maxRecDepth 100000 in
set_option maxHeartbeats 2000000 in
theorem QIs.takeBefore (h : QIs w qb n T E ft) (t : Int) (hT : T < 4294967296) :
    Calls Try.prog 29 #[.pointer (some ⟨qb, 0, none⟩), .int .i64 t] w (BefPost w qb n T E ft t) := by
  have H := Lib.hid h
  have HLe := Lib.hid h.least
  have HE := Lib.hid h.le
  clear h
  obtain ⟨i0, hi, hz0, hz1, hz2⟩ := info_parts info_event0
  go_enter Try.func29, Try.ntmps29
  go_wp2_with fail
  refine HLe.out.mono ?_
  rintro e w1 ⟨rfl, hf1⟩
  obtain ⟨x0, hx0⟩ : ∃ x0, lstE E = x0 := ⟨_, rfl⟩
  obtain ⟨b0, hb0⟩ : ∃ b0, (!E.isEmpty) = b0 := ⟨_, rfl⟩
  rw [hx0, hb0]
  simp only [evV]
  have Hx0 := Lib.hid hx0
  have Hb0 := Lib.hid hb0
  clear hx0 hb0
  go_wp2_with fail
  obtain ⟨q0, hq0⟩ : ∃ q0, w1.heap.size = q0 := ⟨_, rfl⟩
  obtain ⟨W2, hW2⟩ : ∃ W, w1.alloc (.cells #[.int .i64 x0.key.time, .int .i64 x0.key.source, .int .i64 x0.key.seq, .int .i64 x0.to, .int .i64 x0.value] 34) = W := ⟨_, rfl⟩
  have hb2 := Lib.hid (show W2.heap[q0]? = some (.cells #[.int .i64 x0.key.time, .int .i64 x0.key.source, .int .i64 x0.key.seq, .int .i64 x0.to, .int .i64 x0.value] 34 (0, 0)) by rw [← hW2, ← hq0]; exact World.alloc_heap_new w1 _)
  have F2 := Lib.hid (show Fr0 none' w W2 by rw [← hW2]; exact hf1.alloc _)
  have Hq0 := Lib.hid (show w.heap.size ≤ q0 by rw [← hq0]; exact hf1.size)
  rw [hW2]
  try rw [hq0]
  clear hW2 hq0 hf1
  go_loopw [5, 6, 7] (fun v p b wr => ∃ (k q : Nat) (x : Ev) (fk : Nat → Prop) (bo : Bool), p = .pointer (some ⟨q, 0, none⟩) ∧ b = .bool bo ∧ k ≤ E.length ∧ Hid (lstE (E.drop k) = x ∧ (!(E.drop k).isEmpty) = bo) ∧
    Hid (wr.heap[q]? = some (.cells #[.int .i64 x.key.time, .int .i64 x.key.source, .int .i64 x.key.seq, .int .i64 x.to, .int .i64 x.value] 34 (0, 0))) ∧ Hid (wr.ownsRow w.heap.size 34 5 v k (flatEv (E.take k))) ∧ Hid (∀ y ∈ E.take k, y.key.time < t) ∧
    Hid (QIs wr qb n T (E.drop k) fk) ∧ Hid ((∀ k, fk k → ft k ∨ w.heap.size ≤ k) ∧ ¬ fk q ∧ w.heap.size ≤ q ∧ ∀ g, v.ownBlock = some g → ¬ fk g ∧ g ≠ q) ∧ Hid (Fr0 ft w wr)) (fun v _ _ _ => E.length - (match v with | .slice _ j _ => j | _ => 0))
  case atStart =>
    exact ⟨0, q0, x0, ft, b0, rfl, rfl, Nat.zero_le _, ⟨Hx0.out, Hb0.out⟩, hb2, World.ownsRow_nil _ _ _ _, by unfold Hid; simp, H.out.later F2.out, ⟨fun _ h => .inl h, fun h => by have := H.out.lt _ h; have := Hq0.out; omega, Hq0.out, fun g hg => by cases hg⟩, F2.out.mono (fun _ _ h => h.elim)⟩
  case round =>
    obtain ⟨k, q, x, fk, bo, rfl, rfl, hk, hx, hbq, hrow, hpre, hq, hdis, hfr⟩ := hrel
    obtain ⟨va, vc, rfl, _, _⟩ := EsIn.of_own hrow.out
    by_cases hlt : k < E.length
    · obtain ⟨y, hy⟩ : ∃ y, E[k]? = some y := ⟨_, List.getElem?_eq_getElem hlt⟩
      have hdr : E.drop k = y :: E.drop (k + 1) := by
        rw [List.drop_eq_getElem_cons hlt]
        congr 1
        rw [List.getElem?_eq_getElem hlt] at hy
        exact Option.some.inj hy
      have hxy : y = x := by have := hx.out.1; rw [hdr] at this; exact this
      have hbo : true = bo := by have := hx.out.2; rw [hdr] at this; exact this
      subst hxy
      subst hbo
      have Hy := Lib.hid hy
      have Hdr := Lib.hid hdr
      clear hy hdr hx
      have x0 := cells_in hbq.out 0
      simp at x0
      by_cases ht : y.key.time < t
      · have d1 : decide (y.key.time < t) = true := decide_eq_true ht
        have Ht := Lib.hid ht
        clear ht
        go_wp2_with fail
        refine (hq.out.take hT).mono ?_
        rintro e w5 ⟨rfl, hq5, hf5⟩
        have hb5 := Lib.hid ((hf5.block q (Array.getElem?_eq_some_iff.1 hbq.out).1 hdis.out.2.1).trans hbq.out)
        have hr5 := Lib.hid (ownsRow_fr0 hrow.out hf5 (fun g hg => (hdis.out.2.2.2 g hg).1))
        have hq5 := Lib.hid hq5
        have F5 := Lib.hid hf5
        have Fw5 := Lib.hid (hfr.out.trans' hf5 (fun i hi hs => (hdis.out.1 i hs).elim id (fun h => by omega)))
        clear x0 d1 hf5
        have x0 := cells_in hb5.out 0
        have x1 := cells_in hb5.out 1
        have x2 := cells_in hb5.out 2
        have x3 := cells_in hb5.out 3
        have x4 := cells_in hb5.out 4
        simp at x0 x1 x2 x3 x4
        have hsrc := Src.newRow (P := Try.prog) (size := 5) (tx := 28) (ty := 34) w5 Try.underlying28 1 1 (cev y) rfl (by simp [Value.oneCell', cev])
        simp only [cev] at hsrc
        have hbase : w.heap.size ≤ w5.heap.size := Fw5.out.size
        have hkn : k ≤ 256 := by have := HE.out; omega
        go_wp2_with (at_builtin; refine wpList_append_k rfl _ _ 28 28 rfl w.heap.size 34 i0 (.agg #[.int .i64 0, .int .i64 0, .int .i64 0, .int .i64 0, .int .i64 0]) 5 40 Try.underlying28 hi hz0 hz1 hz2 rfl (by decide) (.slice va k vc) k _ rfl (ownsRow_fr0 hr5.out ((Fr0.refl none' w5).alloc _) (fun _ _ h => h)) (.slice (some ⟨w5.heap.size, 0, none⟩) 1 1) 1 _ rfl hsrc (by unfold maxLen; omega) (by omega) (by simp; omega) ?_; intro v6 w6 hown hgrow hdr hob; have Hown := Lib.hid hown; have Hgr := Lib.hid hgrow; have Hob := Lib.hid hob; have hfg : Fr0 (fun i => (Value.slice va k vc).ownBlock = some i) w5 w6 := ((Fr0.refl _ w5).alloc _).grown hgrow (fun i hi _ => hi); have hb6 := (hfg.block q (Array.getElem?_eq_some_iff.1 hb5.out).1 (fun e => (hdis.out.2.2.2 q e).2 rfl)).trans hb5.out; have F6 := Lib.hid hfg; have Hb6 := Lib.hid hb6; clear hown hgrow hdr hob x0 x1 x2 x3 x4 hfg hsrc; have x0 := cells_in hb6 0; have x1 := cells_in hb6 1; have x2 := cells_in hb6 2; have x3 := cells_in hb6 3; have x4 := cells_in hb6 4; simp at x0 x1 x2 x3 x4; clear hb6)
        clear x0 x1 x2 x3 x4
        obtain ⟨q6, hq6⟩ : ∃ q6, w6.heap.size = q6 := ⟨_, rfl⟩
        obtain ⟨W7, hW7⟩ : ∃ W, w6.alloc (.cells #[.int .i64 y.key.time, .int .i64 y.key.source, .int .i64 y.key.seq, .int .i64 y.to, .int .i64 y.value] 34) = W := ⟨_, rfl⟩
        have hb7 := Lib.hid (show W7.heap[q6]? = some (.cells #[.int .i64 y.key.time, .int .i64 y.key.source, .int .i64 y.key.seq, .int .i64 y.to, .int .i64 y.value] 34 (0, 0)) by rw [← hW7, ← hq6]; exact World.alloc_heap_new w6 _)
        have F7 := Lib.hid (show Fr0 none' w6 W7 by rw [← hW7]; exact (Fr0.refl _ _).alloc _)
        rw [hW7]
        try rw [hq6]
        have Hq6 := Lib.hid hq6
        clear hW7 hq6
        have hq57 : ∀ g, (Value.slice va k vc).ownBlock = some g → ¬ qgrow fk wr w5 g := fun g hg hh => by
          have h1 := hrow.out.lt g hg
          rcases hh with hh | hh
          · exact (hdis.out.2.2.2 g hg).1 hh
          · omega
        have HQ7 := Lib.hid ((hq5.out.fr0 F6.out (fun j hj hs => hq57 j hs hj)).later F7.out)
        refine HQ7.out.least.mono ?_
        rintro e w8 ⟨rfl, hf8⟩
        rw [List.tail_drop] at HQ7 ⊢
        obtain ⟨z, hz⟩ : ∃ z, lstE (E.drop (k + 1)) = z := ⟨_, rfl⟩
        obtain ⟨b2, hb2⟩ : ∃ b2, (!(E.drop (k + 1)).isEmpty) = b2 := ⟨_, rfl⟩
        rw [hz, hb2]
        have HZ := Lib.hid (show lstE (E.drop (k + 1)) = z ∧ (!(E.drop (k + 1)).isEmpty) = b2 from ⟨hz, hb2⟩)
        have hb8 := Lib.hid ((hf8.block q6 (Array.getElem?_eq_some_iff.1 hb7.out).1 id).trans hb7.out)
        have F68 := Lib.hid (F7.out.trans hf8)
        have HQ8 := Lib.hid (HQ7.out.later hf8)
        have Hq57 := Lib.hid hq57
        clear hz hb2 hf8 hq57
        simp only [evV]
        have y0 := cells_in hb8.out 0
        have y1 := cells_in hb8.out 1
        have y2 := cells_in hb8.out 2
        have y3 := cells_in hb8.out 3
        have y4 := cells_in hb8.out 4
        simp at y0 y1 y2 y3 y4
        have t0 := thaw_in hb8.out 0
        have t1 := thaw_in hb8.out 1
        have t2 := thaw_in hb8.out 2
        have t3 := thaw_in hb8.out 3
        have t4 := thaw_in hb8.out 4
        go_wp2_with fail
        obtain ⟨W9, hW9⟩ : ∃ W, (((((w8.setCell ⟨q6, 0, none⟩ (.int .i64 z.key.time)).setCell ⟨q6, 1, none⟩ (.int .i64 z.key.source)).setCell ⟨q6, 2, none⟩ (.int .i64 z.key.seq)).setCell ⟨q6, 3, none⟩ (.int .i64 z.to)).setCell ⟨q6, 4, none⟩ (.int .i64 z.value)) = W := ⟨_, rfl⟩
        try rw [hW9]
        have e9 := Lib.hid (show W9.heap[q6]? = some (.cells #[.int .i64 z.key.time, .int .i64 z.key.source, .int .i64 z.key.seq, .int .i64 z.to, .int .i64 z.value] 34 (0, 0)) by rw [← hW9]; exact ev_set5 hb8.out _ _ _ _ _)
        have f89 : Fr0 (fun j => j = q6) w8 W9 := by rw [← hW9]; exact (((((Fr0.refl (fun j => j = q6) w8).setCell (fun _ => rfl) _).setCell (fun _ => rfl) _).setCell (fun _ => rfl) _).setCell (fun _ => rfl) _).setCell (fun _ => rfl) _
        have hs5 : wr.heap.size ≤ w5.heap.size := F5.out.size
        have hs6 : w5.heap.size ≤ q6 := by rw [← Hq6.out]; exact F6.out.size
        have hsr : w.heap.size ≤ wr.heap.size := hfr.out.size
        have hfk : ∀ j, qgrow fk wr w5 j → j < w5.heap.size := fun j hj => qgrow_lt hs5 hq.out.lt hj
        have hv6 : ∀ g, v6.ownBlock = some g → ¬ qgrow fk wr w5 g ∧ g ≠ q6 := fun g hg => by
          have hl6 := (Hown.out.lt g hg).2
          refine ⟨fun hh => ?_, by rw [← Hq6.out]; omega⟩
          rcases Hob.out with hob | hob
          · exact Hq57.out g (by rw [← hob]; exact hg) hh
          · rw [hg] at hob
            injection hob with hob
            have := hfk g hh
            rw [World.size_alloc] at hob
            omega
        have hrow9 : W9.ownsRow w.heap.size 34 5 v6 (k + 1) (flatEv (E.take (k + 1))) := by
          have h1 := Hown.out
          rw [show [Value.int IntKind.i64 y.key.time, Value.int IntKind.i64 y.key.source, Value.int IntKind.i64 y.key.seq, Value.int IntKind.i64 y.to, Value.int IntKind.i64 y.value] = cev y from rfl, ← flatEv_snoc, show E.take k ++ [y] = E.take (k + 1) by rw [List.take_add_one, Hy.out]; rfl] at h1
          exact ownsRow_fr0 (ownsRow_fr0 h1 F68.out (fun _ _ h => h)) f89 (fun g hg => (hv6 g hg).2)
        have hQ9 : QIs W9 qb n T (E.drop (k + 1)) (qgrow fk wr w5) := HQ8.out.fr0 f89 (fun j hj e => by have := hfk j hj; omega)
        have hfr9 : Fr0 ft w W9 := by
          have g1 := Fw5.out.trans' F6.out (fun j hj hs => absurd (hr5.out.lt j hs).1 (Nat.not_le.2 hj))
          exact (g1.trans' F68.out (fun _ _ h => h.elim)).trans' f89 (fun j hj e => by omega)
        have hpre9 : ∀ u ∈ E.take (k + 1), u.key.time < t := fun u hu => by
          rw [List.take_add_one, Hy.out, List.mem_append] at hu
          rcases hu with hu | hu
          · exact hpre.out u hu
          · simp at hu; subst hu; exact Ht.out
        have hkl : k + 1 ≤ E.length := (List.getElem?_eq_some_iff.1 Hy.out).1
        obtain ⟨v6a, v6c, rfl, _, _⟩ := EsIn.of_own hrow9
        have R1 := Lib.hid hrow9
        have R2 := Lib.hid hQ9
        have R3 := Lib.hid hfr9
        have R4 := Lib.hid hpre9
        have R5 := Lib.hid (show (∀ j, qgrow fk wr w5 j → ft j ∨ w.heap.size ≤ j) ∧ ¬ qgrow fk wr w5 q6 ∧ w.heap.size ≤ q6 ∧ ∀ g, (Value.slice v6a (k + 1) v6c).ownBlock = some g → ¬ qgrow fk wr w5 g ∧ g ≠ q6 from ⟨fun j hj => by
          rcases hj with hj | hj
          · exact hdis.out.1 j hj
          · exact .inr (by omega), fun hh => by have := hfk q6 hh; omega, by omega, hv6⟩)
        clear hrow9 hQ9 hfr9 hpre9 hv6 f89 hW9 y0 y1 y2 y3 y4 t0 t1 t2 t3 t4 hfk
        go_roundw
        case rel => exact ⟨k + 1, q6, z, qgrow fk wr w5, b2, rfl, rfl, hkl, HZ, e9, R1, R4, R2, R5, R3⟩
        case measure => simp; omega
      · have d1 : decide (y.key.time < t) = false := decide_eq_false ht
        obtain ⟨e1, e2⟩ := bef_cut H.out.good.1 (t := t) (k := k) hpre.out (fun u hu => by rw [Hy.out] at hu; cases hu; exact ht)
        have hl : (E.take k).length = k := by rw [List.length_take]; omega
        have R := Lib.hid (show BefPost w qb n T E ft t (.returned (.slice va k vc)) wr from ⟨_, fk, rfl, by rw [e1, hl]; exact hrow.out, by rw [e2]; exact hq.out, hdis.out.1, fun g hg => (hdis.out.2.2.2 g hg).1, hfr.out⟩)
        clear ht e1 e2 hl
        go_wp2_with fail
        go_ret
        exact R.out
    · have hnone : E[k]? = none := List.getElem?_eq_none (by omega)
      have hdr : E.drop k = [] := List.drop_eq_nil_of_le (by omega)
      have hbo : false = bo := by have := hx.out.2; rw [hdr] at this; exact this
      subst hbo
      obtain ⟨e1, e2⟩ := bef_cut H.out.good.1 (t := t) (k := k) hpre.out (fun u hu => by rw [hnone] at hu; cases hu)
      have hl : (E.take k).length = k := by rw [List.length_take]; omega
      have R := Lib.hid (show BefPost w qb n T E ft t (.returned (.slice va k vc)) wr from ⟨_, fk, rfl, by rw [e1, hl]; exact hrow.out, by rw [e2]; exact hq.out, hdis.out.1, fun g hg => (hdis.out.2.2.2 g hg).1, hfr.out⟩)
      clear e1 e2 hl hnone hdr hx
      go_wp2_with fail
      go_ret
      exact R.out
end Go.Proofs.Ytmcgipilopfgoaa

/-
  The queue: Copy.
-/
namespace Go.Proofs.Ytmcgipilopfgoaa
open Go Go.RowKit Go.ChangeMaps
attribute [local go_sem ↓] Go.wp_at_zero Go.wp_at_succ
attribute [local go_sem] Oper.semAt_some wide_fn wide_depth wide_fnR wide_depthR
variable {w w' : World} {qb n T : Nat} {E : List Ev} {ft : Nat → Prop}

theorem QIs.ordered (h : QIs w qb n T E ft) (cb : Nat) (hbx : Box w cb (.pointer (some ⟨qb, 0, none⟩))) :
    ∃ rd : Nat → Prop, IterX0 Try.prog 64 #[.pointer (some ⟨cb, 0, none⟩)] (fun x : Ev => #[evV x]) E none' rd w ∧ ∀ k, rd k → k = cb ∨ ft k := by
  obtain ⟨sb, pb, hb, ba, eb, mb, hv, X, F, P, first, V, h1, rfl, h3, h4⟩ := h
  exact ⟨_, ordered_iter h1 cb hbx, fun k hk => hk.imp id (h3 k)⟩
theorem QIs.evs (h : QIs w qb n T E ft) : ∃ eb, w.cell? ⟨qb, 2, none⟩ = some (.slice (some ⟨eb, 0, none⟩) n n) ∧ ft qb := by
  obtain ⟨sb, pb, hb, ba, eb, mb, hv, X, F, P, first, V, h1, rfl, h3, h4⟩ := h
  exact ⟨eb, h1.c2, h3 _ (.inl rfl)⟩
theorem take_puts {E : List Ev} (h : AscE E) (ho : OnceE E) (k : Nat) : putsE (E.take k) [] = E.take k := asc_puts (asc_sub h (List.take_sublist _ _)) (once_sub ho (List.take_sublist _ _))
set_option maxRecDepth 100000 in
set_option maxHeartbeats 2000000 in
theorem QCopy_in (h : QIs w qb n T E ft) : CallsIn Fence.wide 0 Try.prog 32 #[.pointer (some ⟨qb, 0, none⟩)] w fun e w' => ∃ cb ft', e = .returned (.tuple #[.pointer (some ⟨cb, 0, none⟩), .int .i64 0]) ∧ QIs w' cb n E.length E ft' ∧ (∀ k, ft' k → w.heap.size ≤ k) ∧ Fr0 none' w w' := by
  have H := Lib.hid h
  have HG := Lib.hid h.good
  have HE := Lib.hid h.le
  clear h
  refine callsIn_of_wp_marks Try.func32 rfl trivial ?_ rfl
  simp only [Try.ntmps32, List.size_toArray, List.length_cons, List.length_nil, Nat.reduceAdd, Nat.reduceSub, Array.replicate_succ, Array.replicate_zero, List.push_toArray, List.append_toArray, List.nil_append, List.cons_append]
  gi_wp2_with fail
  refine (callsIn_wide.2 H.out.isnt).mono ?_
  rintro e w1 ⟨rfl, rfl⟩
  obtain ⟨eb, c2, hfq⟩ := H.out.evs
  gi_wp2_with fail
  clear c2
  refine (callsIn_wide.2 (QNew_is n HE.out.2 _)).mono ?_
  rintro e w2 ⟨qc, ftc, rfl, hq2, f2, hge⟩
  have HQ2 := Lib.hid hq2
  have F2 := Lib.hid f2
  have Hge := Lib.hid hge
  clear hq2 f2 hge
  gi_wp2_with fail
  obtain ⟨N0, hN0⟩ : ∃ N0, w2.heap.size = N0 := ⟨_, rfl⟩
  obtain ⟨W3, hW3⟩ : ∃ W, w2.alloc (.cells #[.pointer (some ⟨qc, 0, none⟩)] 24) = W := ⟨_, rfl⟩
  have Bc3 := Lib.hid (show Box W3 N0 (.pointer (some ⟨qc, 0, none⟩)) by rw [← hW3, ← hN0]; exact Box.new _ _ _)
  have F23 := Lib.hid (show Fr0 none' w2 W3 by rw [← hW3]; exact (Fr0.refl _ _).alloc _)
  have Hs3 := Lib.hid (show W3.heap.size = N0 + 1 by rw [← hW3, World.size_alloc, hN0])
  rw [hW3]
  try rw [hN0]
  have HN0 := Lib.hid hN0
  clear hW3 hN0
  refine (callsIn_wide.2 (ordered_any qb W3)).mono ?_
  rintro e w4 ⟨rfl, hw4⟩
  rw [Hs3.out]
  obtain ⟨W4, hW4⟩ : ∃ W, W3.alloc (.cells #[.pointer (some ⟨qb, 0, none⟩)] 24) = W := ⟨_, rfl⟩
  rw [hW4] at hw4
  subst hw4
  have F34 := Lib.hid (show Fr0 none' W3 w4 by rw [← hW4]; exact (Fr0.refl _ _).alloc _)
  have Bq4 := Lib.hid (show Box w4 (N0 + 1) (.pointer (some ⟨qb, 0, none⟩)) by rw [← hW4, ← Hs3.out]; exact Box.new _ _ _)
  have Hs4 := Lib.hid (show w4.heap.size = N0 + 2 by rw [← hW4, World.size_alloc, Hs3.out])
  have F4 := Lib.hid (show Fr0 none' w w4 from (F2.out.trans F23.out).trans F34.out)
  have H4 := Lib.hid (H.out.later F4.out)
  have HQ4 := Lib.hid (HQ2.out.later (F23.out.trans F34.out))
  have Bc4 := Lib.hid (Bc3.out.fr0 F34.out id)
  clear hW4
  obtain ⟨rd, it, hrd⟩ := H4.out.ordered (N0 + 1) Bq4.out
  have Hrd := Lib.hid hrd
  clear hrd
  gi_wp2_with fail
  have hN2 : w.heap.size ≤ N0 := by have := F2.out.size; have := HN0.out; omega
  have HN2 := Lib.hid hN2
  have hlf := H.out.lt
  refine wpIn_iterS0 (σ := Nat → Prop) (gf := 64) (lb := #[.pointer (some ⟨N0 + 1, 0, none⟩)]) rfl (by intro args w; rfl) it (Keep.refl _ _) (fun _ => rfl) (fun k hk => hk.elim) (fun k hk => by
      rw [Hs4.out]
      rcases Hrd.out k hk with rfl | h
      · omega
      · have := hlf k h; omega)
    (fun i s W => QIs W qc n i (E.take i) s ∧ Box W N0 (.pointer (some ⟨qc, 0, none⟩)) ∧ (∀ k, s k → w.heap.size ≤ k ∧ k ≠ N0 ∧ k ≠ N0 + 1) ∧ Fr0 none' w W) (fun s k => s k ∨ k = N0) (fun _ _ => False) ?hInv ?hlt (fun _ _ _ h _ => h.elim) ftc ?h0 ?hf0
    (fun x W a' => ∃ B, a' = { tmps := #[.pointer (some ⟨qb, 0, none⟩), undef, .pointer none, .int .i64 0, .pointer (some ⟨N0, 0, none⟩), .int .i64 0, .pointer (some ⟨B, 0, none⟩), .pointer (some ⟨qb, 0, none⟩), .bool false, .tuple #[.pointer (some ⟨qc, 0, none⟩), .int .i64 0], .pointer (some ⟨qb, 0, none⟩), .pointer (some ⟨qb, 0, none⟩), .pointer (some ⟨qb, 2, none⟩), .slice (some ⟨eb, 0, none⟩) n n, .int .i64 n, .tuple #[.pointer (some ⟨qc, 0, none⟩), .int .i64 0], .pointer (some ⟨qc, 0, none⟩), .int .i64 0, .int .i64 0, .bool false, undef, .pointer (some ⟨qb, 0, none⟩), .func (.func 64) #[] #[.pointer (some ⟨N0 + 1, 0, none⟩)], evV x, undef, undef, undef, undef], defers := [] } ∧ N0 + 3 < B ∧ W.heap[B]? = some (.cells (cev x).toArray 34 (0, 0)))
    ?assign ?keep ?body ?done (fun _ _ _ _ h _ => h.elim)
  case hInv =>
    rintro i s W1 W2 ⟨h1, h2, h3, h4⟩ hf
    rw [Hs4.out] at hf
    refine ⟨h1.fr0 hf (fun k hk hs => hs.2 (.inl hk)), h2.fr0 hf (fun hs => hs.2 (.inr rfl)), h3, h4.trans' hf (fun k hk hs => ?_)⟩
    rcases hs.1 with h | h
    · exact h
    · have := HN2.out; omega
  case hlt =>
    rintro i s W k ⟨h1, h2, h3, h4⟩ (hk | rfl)
    · exact h1.lt k hk
    · exact h2.lt
  case h0 =>
    refine ⟨HQ4.out, Bc4.out, fun k hk => ⟨Hge.out k hk, ?_⟩, F4.out⟩
    have := HQ2.out.lt k hk
    have := HN0.out
    omega
  case hf0 =>
    rintro k hk
    refine ⟨id, fun hr => ?_⟩
    have h1 : k ≠ N0 + 1 ∧ w.heap.size ≤ k := by
      rcases hk with hk | rfl
      · have := HQ2.out.lt k hk
        have := HN0.out
        exact ⟨by omega, Hge.out k hk⟩
      · exact ⟨by omega, HN2.out⟩
    rcases Hrd.out k hr with h | h
    · exact h1.1 h
    · have := hlf k h; omega
  case assign =>
    intro l x W K hlt hK
    rw [Hs4.out] at hlt
    simp only [evV]
    gi_wp2
    exact hK _ _ ⟨W.heap.size, by simp [evV], by omega, World.alloc_heap_new W _⟩ ((Fr0.refl _ _).alloc _)
  case keep =>
    rintro x W4 W5 a' ⟨B, rfl, hB, hc⟩ hf
    exact ⟨B, rfl, hB, (hf.block B (Array.getElem?_eq_some_iff.1 hc).1 (by rw [Hs4.out]; omega)).trans hc⟩
  case body =>
    rintro l i x s W a' hxi ⟨h1, h2, h3, h4⟩ hfoot hsz ⟨B, rfl, hB, hcB⟩
    have hlt : i < E.length := (List.getElem?_eq_some_iff.1 hxi).1
    have b0 := cells_in hcB 0
    have b1 := cells_in hcB 1
    have b2 := cells_in hcB 2
    have b3 := cells_in hcB 3
    have b4 := cells_in hcB 4
    simp [cev] at b0 b1 b2 b3 b4
    have cN := h2.cell
    have hsn : E.take (i + 1) = insE x (E.take i) := by
      rw [← take_puts HG.out.1 HG.out.2.1 (i + 1), List.take_add_one, hxi]
      show putsE (E.take i ++ [x]) [] = _
      rw [putsE_snoc, take_puts HG.out.1 HG.out.2.1 i]
    have hnm : ∀ y ∈ E.take i, y.name ≠ x.name := fun y hy e => by
      have h5 : OnceE (E.take (i + 1)) := once_sub HG.out.2.1 (List.take_sublist _ _)
      rw [List.take_add_one, hxi] at h5
      have h6 := OnceE.perm h5 List.perm_append_comm
      exact (once_cons.1 h6).1 y hy e
    have hre := HG.out.2.2 x (List.mem_of_getElem? hxi)
    have HPt := Lib.hid (h1.put hre hnm (by have := HE.out; omega) (by rw [List.length_take]; have := HE.out; omega))
    have Hsn := Lib.hid hsn
    have H1 := Lib.hid h1
    have H2 := Lib.hid h2
    have H3 := Lib.hid h3
    have H4' := Lib.hid h4
    have Hsz := Lib.hid hsz
    unfold evV at HPt
    clear hxi hfoot hsz hcB h1 h2 h3 h4 hsn hnm hre
    simp only [evV]
    gi_wp2_with fail
    refine (callsIn_wide.2 HPt.out).mono ?_
    rintro e w5 ⟨rfl, hq5, hf5⟩
    gi_wp2_with fail
    refine ⟨qgrow s W w5, ⟨by rw [Hsn.out]; exact hq5, ?_, fun k hk => ?_, ?_⟩, hf5.mono (fun _ _ hk => .inl hk), fun k hk => ?_⟩
    · exact H2.out.fr0 hf5 (fun h => (H3.out N0 h).2.1 rfl)
    · rcases hk with hk | hk
      · exact H3.out k hk
      · have g1 := H4'.out.size
        have g2 := Hsz.out
        rw [Hs4.out] at g2
        exact ⟨by omega, by omega, by omega⟩
    · exact H4'.out.trans' hf5 (fun k hk h => absurd (H3.out k h).1 (Nat.not_le.2 hk))
    · rcases hk with (hk | hk) | hk
      · exact .inl (.inl hk)
      · exact .inr hk.1
      · exact .inl (.inr hk)
  case done =>
    rintro D s W hDe ⟨h1, h2, h3, h4⟩ hDf hK
    rw [Hs4.out] at hDe
    subst hDe
    have hc := h2.cell
    rw [List.take_length] at h1
    have hW : N0 + 2 < W.heap.size := (Array.getElem?_eq_some_iff.1 hK).1
    have hfp : Fr0 (fun k => k = N0 + 2) W (W.putObj (N0 + 2) (.deferred none)) := Fr0.putNew _ _ rfl
    have hfin := Lib.hid (show QIs (W.putObj (N0 + 2) (.deferred none)) qc n E.length E s ∧ (∀ k, s k → w.heap.size ≤ k) ∧ Fr0 none' w (W.putObj (N0 + 2) (.deferred none)) from ⟨h1.fr0 hfp (fun k hk e => hDf k (.inl hk) (by rw [e])), fun k hk => (h3 k hk).1, h4.trans' hfp (fun k hk e => by have := HN2.out; omega)⟩)
    have HK := Lib.hid hK
    clear h1 h2 h3 h4 hDf hK hfp it
    gi_wp2
    refine ⟨by simp, .inl ⟨_, _, rfl, run_takeDeferred HK.out, ?_⟩⟩
    refine ⟨_, results_tmp2 rfl _ _ _, qc, s, rfl, hfin.out⟩
/-- Copy, on a queue. -/
theorem QIs.copy (h : QIs w qb n T E ft) : Calls Try.prog 32 #[.pointer (some ⟨qb, 0, none⟩)] w fun e w' => ∃ cb ft', e = .returned (.tuple #[.pointer (some ⟨cb, 0, none⟩), .int .i64 0]) ∧ QIs w' cb n E.length E ft' ∧ (∀ k, ft' k → w.heap.size ≤ k) ∧ Fr0 none' w w' := callsIn_wide.1 (QCopy_in h)
end Go.Proofs.Ytmcgipilopfgoaa

/-
  The laws' helpers: filled.
-/
namespace Go.Proofs.Ytmcgipilopfgoaa
open Go Go.RowKit Go.ChangeMaps
attribute [local go_sem ↓] Go.wp_at_zero Go.wp_at_succ
attribute [local go_sem] Oper.semAt_some wide_fn wide_depth wide_fnR wide_depthR

theorem dup_of_once {E l : List Ev} (h : OnceE (l ++ E)) (i : Nat) : dupB E l i = false := by
  unfold dupB
  split
  · next x hx =>
    obtain ⟨hi, he⟩ := List.getElem?_eq_some_iff.1 hx
    have hl : l = l.take i ++ x :: l.drop (i + 1) := by
      rw [← he, ← List.drop_eq_getElem_cons hi, List.take_append_drop]
    have hp : OnceE (x :: (l.take i ++ l.drop (i + 1) ++ E)) := by
      refine h.perm ?_
      conv => lhs; rw [hl]
      rw [List.append_assoc, List.append_assoc, List.cons_append]
      exact List.perm_middle
    have h1 := (once_cons.1 hp).1
    rw [List.any_eq_false]
    intro y hy
    have := h1 y (by
      rcases List.mem_append.1 hy with hy | hy
      · exact List.mem_append_right _ hy
      · exact List.mem_append_left _ (List.mem_append_left _ hy))
    simpa using this
  · rfl
theorem chk_of_ok {E l : List Ev} (hr : ∀ x ∈ l, RightE x) (ho : OnceE (l ++ E)) : chkE E l = (-1, 0) := by
  unfold chkE
  have h1 : idxI (fun x => !decide (RightE x)) l = -1 := by
    rcases idxI_cases (fun x => !decide (RightE x)) l with ⟨hi, hall⟩ | ⟨k, hi, hk, x, hx, hf, _⟩
    · exact hi
    · have := hr x (List.mem_of_getElem? hx)
      simp [this] at hf
  have h2 : dupI E l = -1 := dupI_none (fun i _ => dup_of_once ho i)
  rw [h1, h2, if_neg (by omega), if_neg (by omega)]
theorem all_ok {n : Nat} {E l : List Ev} (hr : ∀ x ∈ l, RightE x) (ho : OnceE (l ++ E)) (hroom : E.length + l.length ≤ n) : allV n E l = (-1, 0) ∧ allE n E l = putsE l E := by
  have h : allV n E l = (-1, 0) := by
    unfold allV
    rw [chk_of_ok hr ho, if_neg (by simp), if_neg (by omega)]
  refine ⟨h, ?_⟩
  unfold allE
  rw [h, if_pos rfl]
theorem puts_once_take {l : List Ev} (h : OnceE l) {k : Nat} {x : Ev} (hx : l[k]? = some x) : OnceE ([x] ++ putsE (l.take k) []) := by
  have h1 : OnceE (l.take (k + 1)) := once_sub h (List.take_sublist _ _)
  rw [List.take_add_one, hx] at h1
  refine h1.perm ?_
  simp only [Option.toList_some]
  refine List.perm_append_comm.trans ?_
  refine List.Perm.append_left _ ?_
  have := putsE_perm (l.take k) []
  rw [List.append_nil] at this
  exact this.symm
/-- What a filled queue and its list are. -/
def Filled (w w' : World) (qb c T : Nat) (S : List Ev) (ft : Nat → Prop) (r : Value) : Prop :=
  QIs w' qb c T S ft ∧ w'.ownsRow w.heap.size 34 5 r S.length (flatEv S) ∧ (∀ k, ft k → w.heap.size ≤ k) ∧ (∀ g, r.ownBlock = some g → ¬ ft g) ∧ Fr0 none' w w'
set_option maxRecDepth 100000 in
set_option maxHeartbeats 2000000 in
theorem filled_any {w : World} {a : Option Addr} {n cap c : Nat} (l : List Ev) (h : EsIn w a l) (hl : l.length = n) (hnc : n ≤ c) (hc : c ≤ 256) (hr : ∀ x ∈ l, RightE x) (ho : OnceE l) :
    Calls Try.prog 17 #[.int .i64 c, .slice a n cap] w fun e w' => ∃ qb ft r, e = .returned (.tuple #[.pointer (some ⟨qb, 0, none⟩), r]) ∧ Filled w w' qb c n (putsE l []) ft r := by
  have H := Lib.hid h
  have Hl := Lib.hid hl
  have Hr := Lib.hid hr
  have Ho := Lib.hid ho
  have HN := Lib.hid (QNew_is c hc w)
  have hlen : (putsE l []).length = n := by rw [putsE_length, hl]; rfl
  have Hlen := Lib.hid hlen
  clear h hl hr ho hlen
  go_enter Try.func17, Try.ntmps17
  go_wp2_with fail
  refine HN.out.mono ?_
  rintro e w1 ⟨qb, ft, rfl, hq1, f1, hge⟩
  have HQ1 := Lib.hid hq1
  have F1 := Lib.hid f1
  have Hge := Lib.hid hge
  clear hq1 f1 hge
  go_wp2_with fail
  go_loopw [9, 23] (fun _ i wr => ∃ k : Nat, k ≤ n ∧ i = .int .i64 k ∧ Hid (QIs wr qb c k (putsE (l.take k) []) (qgrow ft w1 wr)) ∧ Hid (Fr0 ft w1 wr)) (fun _ i _ => n - (Go.RowKit.intOf i).toNat)
  case atStart => exact ⟨0, Nat.zero_le _, rfl, qgrow_refl HQ1.out, Fr0.refl _ _⟩
  case round =>
    obtain ⟨k, hk, rfl, hq, hfr⟩ := hrel
    have Fw := Lib.hid (F1.out.trans' hfr.out (fun i hi hs => by have := Hge.out i hs; omega))
    by_cases hlt : k < n
    · obtain ⟨x, hx⟩ : ∃ x, l[k]? = some x := ⟨_, List.getElem?_eq_getElem (by rw [Hl.out]; exact hlt)⟩
      obtain ⟨g2, o, rfl, hxc⟩ := H.out k x hx
      obtain ⟨x0, x1, x2, x3, x4⟩ := hxc.later Fw.out
      have hsn : l.take (k + 1) = l.take k ++ [x] := by rw [List.take_add_one, hx]; rfl
      obtain ⟨e1, e2⟩ := all_ok (n := c) (E := putsE (l.take k) []) (l := [x]) (fun y hy => by rw [List.mem_singleton.1 hy]; exact Hr.out x (List.mem_of_getElem? hx)) (puts_once_take Ho.out hx) (by rw [putsE_length, List.length_take, List.length_singleton, List.length_nil, Hl.out]; omega)
      have e3 : putsE [x] (putsE (l.take k) []) = putsE (l.take (k + 1)) [] := by rw [hsn, putsE_append]
      rw [e3] at e2
      have E1 := Lib.hid e1
      have E2 := Lib.hid e2
      have k1 : (0 : Int) ≤ (k : Int) := by omega
      have k2 : (k : Int) < (n : Int) := by omega
      clear hx hxc hsn e1 e2 e3
      go_wp2_with fail
      obtain ⟨W3, hW3⟩ : ∃ W, wr.alloc (.cells #[.int .i64 x.key.time, .int .i64 x.key.source, .int .i64 x.key.seq, .int .i64 x.to, .int .i64 x.value] 34) = W := ⟨_, rfl⟩
      have F3 := Lib.hid (show Fr0 none' wr W3 by rw [← hW3]; exact (Fr0.refl _ _).alloc _)
      rw [hW3]
      have HP := (hq.out.later F3.out).put1 x (by omega)
      rw [E1.out, E2.out] at HP
      simp only [evV] at HP
      clear x0 x1 x2 x3 x4 hW3
      refine HP.mono ?_
      rintro e w4 ⟨rfl, hq4, hf4⟩
      have HQ4 := Lib.hid ((hq4.after F3.out.size hf4.size hq.out.lt).then hfr.out.size (Nat.le_trans F3.out.size hf4.size) HQ1.out.lt)
      have F4 := Lib.hid (fr_grow hfr.out ((F3.out.mono (fun _ _ h => h.elim)).trans hf4))
      clear hq4 hf4 HP
      go_wp2_with fail
      go_roundw
      case rel => exact ⟨k + 1, by omega, by go_num, HQ4.out, F4.out⟩
      case measure => simp [Go.RowKit.intOf]; omega
    · have hkn : k = n := by omega
      subst hkn
      rw [List.take_of_length_le (by rw [Hl.out]; exact Nat.le_refl _)] at hq
      have HI := inOrder_any (n := k) (cap := cap) l (H.out.later Fw.out) Hl.out (by omega)
      go_wp2_with fail
      refine HI.mono ?_
      rintro e w5 ⟨r, rfl, hr5, hf5⟩
      have hr5 := Lib.hid hr5
      have F5 := Lib.hid hf5
      clear hf5 HI
      go_wp2_with fail
      go_ret2
      refine ⟨qb, _, r, rfl, hq.out.later F5.out, ?_, fun j hj => ?_, fun g hg hh => ?_, Fw.out.trans F5.out⟩
      · rw [Hlen.out]
        exact own_up hr5.out Fw.out.size
      · rcases hj with h | h
        · exact Hge.out j h
        · have := F1.out.size; omega
      · have h1 := (hr5.out.lt g hg).1
        have h2 := hq.out.lt g hh
        omega
end Go.Proofs.Ytmcgipilopfgoaa
