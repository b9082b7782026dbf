/- CalendarParts: the statement: for any input the law returns true, and the arguments read as before; no condition. -/
import Derived.Test.YtmbjfmlicffclaaRows
import Derived.Test.YtmbjfmlicffclaaJb1
import Derived.WalkKit
import Derived.ProofKit
import Derived.OpenShut
import Derived.ChangeMaps5
import Derived.Carry
import Derived.Deep.Slices
import Derived.Deep.Fields
import Derived.ChangeSame
import Derived.Lib.SmallJoins
import Derived.Test.YtmbjfmlicffclaaJb2
import Derived.Shelf.Spec.SlicesGrow
set_option linter.unusedSimpArgs false
set_option linter.unusedVariables false

/-
  A slice of events among the arguments; the row's post (no text of the queue).
-/
namespace Go.Proofs.Ytmbjfmlicffclaa
open Go.ChangeShapes Go.WideShapes Go.ChangeAt Go.RowKit Go.Deep Go.Joins

theorem post_belowC {H : Type} {enc : TypeId × Value → H} {P : Program} {f : Func} {s : ChangeSpec} {apart fresh handsOn : Bool} {W W' : World} {args : Array Value} {v : Value} {ds gs : List (DataW H)} {before pa pv : List MemPlace}
  (hW : DataW.Whole enc P f.params.toList s.vars apart W args.toList ds gs before)
  (hres : ∀ (b : Nat) (sp : Nat → Bool) (hd : Bool), DataW.TrodAll enc P W' b sp hd f.resultTypes.toList (v.resultList f.resultTypes.size) (s.fn H (ds ++ gs)).results [])
  (hargs : DataW.TrodAll enc P W' 0 (fun b => decide (b < W.heap.size)) true f.params.toList args.toList (s.fn H (ds ++ gs)).args pa)
  (hvars : ∀ sp : Nat → Bool, (∀ p ∈ before, sp p.block = true) → DataW.TrodVars enc P W' sp s.vars (s.fn H (ds ++ gs)).vars pv)
  (hb : Below W.heap.size W W') :
  s.post enc P f apart fresh handsOn false W args v W' := by
 have hold : ∀ p ∈ before, (fun b => decide (b < W.heap.size)) p.block = true := fun p hp => by simpa using hW.lt p hp
 exact ⟨ds, gs, before, [], pa, pv, hW, hres _ _ _, hargs, hvars _ hold, hb.frame _, fun h => by cases h⟩
theorem laidC : laidOutB Try.prog = true := by kernel_rfl
theorem knobC : ownKnob Try.prog.godebug = none := by kernel_rfl

theorem listC {α : Type} {P : Nat → α → Prop} : ∀ n, (∀ i, i < n → ∃ x, P i x) → ∃ xs : List α, xs.length = n ∧ ∀ j x, xs[j]? = some x → P j x
 | 0, _ => ⟨[], rfl, fun j x h => by simp at h⟩
 | n + 1, h => by
  obtain ⟨xs, hl, hx⟩ := listC n (fun i hi => h i (by omega))
  obtain ⟨x, hp⟩ := h n (by omega)
  refine ⟨xs ++ [x], by simp [hl], fun j y hj => ?_⟩
  rcases Nat.lt_or_ge j xs.length with hjl | hjl
  ·rw [List.getElem?_append_left hjl] at hj; exact hx j y hj
  ·rw [List.getElem?_append_right hjl] at hj
   have : j - xs.length = 0 := by
    rcases Nat.eq_zero_or_pos (j - xs.length) with h0 | h0
    ·exact h0
    ·rw [List.getElem?_eq_none (by simp; omega)] at hj; cases hj
   rw [this] at hj
   simp at hj
   subst hj
   rw [show j = n by omega]; exact hp
theorem smallC {H : Type} {enc : TypeId × Value → H} {w : World} {n : Nat} {v : Value} {y : DataW H × List MemPlace} (h : DataW.trod enc Try.prog w 0 (fun _ => true) true n 5 [v] = some y) : ∃ a, v = .int .u8 a ∧ 0 ≤ a ∧ a < 256 := by
 obtain ⟨a, h1, _, hw⟩ := DataW.trod_int Try.underlying5 h
 injection h1 with h1 _
 have := bounds_u8 hw
 exact ⟨a, h1, this.1, by omega⟩

theorem intC {H : Type} {enc : TypeId × Value → H} {w : World} {n : Nat} {v : Value} {y : DataW H × List MemPlace} (h : DataW.trod enc Try.prog w 0 (fun _ => true) true n 3 [v] = some y) : ∃ a, v = .int .i64 a := by
 obtain ⟨a, h1, _, hw⟩ := DataW.trod_int Try.underlying3 h
 injection h1 with h1 _
 exact ⟨a, h1⟩
theorem int64C {H : Type} {enc : TypeId × Value → H} {w : World} {n : Nat} {v : Value} {y : DataW H × List MemPlace} (h : DataW.trod enc Try.prog w 0 (fun _ => true) true n 2 [v] = some y) : ∃ a, v = .int .i64 a := by
 obtain ⟨a, h1, _, hw⟩ := DataW.trod_int Try.underlying2 h
 injection h1 with h1 _
 exact ⟨a, h1⟩
set_option maxRecDepth 100000 in
theorem keyC {H : Type} {enc : TypeId × Value → H} {w : World} {n : Nat} {v0 v1 v2 : Value} {y : DataW H × List MemPlace} (h : DataW.trod enc Try.prog w 0 (fun _ => true) true n 45 [v0, v1, v2] = some y) : ∃ k : Key3, v0 = .int .i64 k.time ∧ v1 = .int .i64 k.source ∧ v2 = .int .i64 k.seq := by
 obtain ⟨ys, k, _, _, _, hyl, hfl⟩ := DataW.trod_struct Try.underlying45 h
 have hone : Try.prog.cellsOf 3 = 1 := by kernel_rfl
 have f0 : DataW.trod enc Try.prog w 0 (fun _ => true) true k 3 (([v0, v1, v2].drop 0).take (Try.prog.cellsOf 3)) = ys[0]? := hfl 0 _ rfl
 have f1 : DataW.trod enc Try.prog w 0 (fun _ => true) true k 3 (([v0, v1, v2].drop 1).take (Try.prog.cellsOf 3)) = ys[1]? := hfl 1 _ rfl
 have f2 : DataW.trod enc Try.prog w 0 (fun _ => true) true k 3 (([v0, v1, v2].drop 2).take (Try.prog.cellsOf 3)) = ys[2]? := hfl 2 _ rfl
 rw [hone] at f0 f1 f2
 have yl : ys.length = 3 := hyl
 have t0 : DataW.trod enc Try.prog w 0 (fun _ => true) true k 3 [v0] = some (ys[0]'(by omega)) := f0.trans (List.getElem?_eq_getElem _)
 have t1 : DataW.trod enc Try.prog w 0 (fun _ => true) true k 3 [v1] = some (ys[1]'(by omega)) := f1.trans (List.getElem?_eq_getElem _)
 have t2 : DataW.trod enc Try.prog w 0 (fun _ => true) true k 3 [v2] = some (ys[2]'(by omega)) := f2.trans (List.getElem?_eq_getElem _)
 obtain ⟨a0, rfl⟩ := intC t0
 obtain ⟨a1, rfl⟩ := intC t1
 obtain ⟨a2, rfl⟩ := intC t2
 exact ⟨⟨a0, a1, a2⟩, rfl, rfl, rfl⟩
set_option maxRecDepth 100000 in
theorem eventC {H : Type} {enc : TypeId × Value → H} {w : World} {n : Nat} {v0 v1 v2 v3 v4 : Value} {y : DataW H × List MemPlace} (h : DataW.trod enc Try.prog w 0 (fun _ => true) true n 47 [v0, v1, v2, v3, v4] = some y) : ∃ x : Ev, v0 = .int .i64 x.key.time ∧ v1 = .int .i64 x.key.source ∧ v2 = .int .i64 x.key.seq ∧ v3 = .int .i64 x.to ∧ v4 = .int .i64 x.value := by
 obtain ⟨ys, k, _, _, _, hyl, hfl⟩ := DataW.trod_struct Try.underlying47 h
 have hone : Try.prog.cellsOf 3 = 1 := by kernel_rfl
 have hone6 : Try.prog.cellsOf 2 = 1 := by kernel_rfl
 have hthree : Try.prog.cellsOf 45 = 3 := by kernel_rfl
 have f0 : DataW.trod enc Try.prog w 0 (fun _ => true) true k 45 (([v0, v1, v2, v3, v4].drop 0).take (Try.prog.cellsOf 45)) = ys[0]? := hfl 0 _ rfl
 have f1 : DataW.trod enc Try.prog w 0 (fun _ => true) true k 3 (([v0, v1, v2, v3, v4].drop 3).take (Try.prog.cellsOf 3)) = ys[1]? := hfl 1 _ rfl
 have f2 : DataW.trod enc Try.prog w 0 (fun _ => true) true k 2 (([v0, v1, v2, v3, v4].drop 4).take (Try.prog.cellsOf 2)) = ys[2]? := hfl 2 _ rfl
 rw [hthree] at f0
 rw [hone] at f1
 rw [hone6] at f2
 have yl : ys.length = 3 := hyl
 have t0 : DataW.trod enc Try.prog w 0 (fun _ => true) true k 45 [v0, v1, v2] = some (ys[0]'(by omega)) := f0.trans (List.getElem?_eq_getElem _)
 have t1 : DataW.trod enc Try.prog w 0 (fun _ => true) true k 3 [v3] = some (ys[1]'(by omega)) := f1.trans (List.getElem?_eq_getElem _)
 have t2 : DataW.trod enc Try.prog w 0 (fun _ => true) true k 2 [v4] = some (ys[2]'(by omega)) := f2.trans (List.getElem?_eq_getElem _)
 obtain ⟨kk, rfl, rfl, rfl⟩ := keyC t0
 obtain ⟨a1, rfl⟩ := intC t1
 obtain ⟨a2, rfl⟩ := int64C t2
 exact ⟨⟨kk, a1, a2⟩, rfl, rfl, rfl, rfl, rfl⟩
set_option maxRecDepth 100000 in
/-- A slice of events in memory. -/
theorem eventsC {H : Type} {enc : TypeId × Value → H} {W : World} {n : Nat} {v : Value} {y : DataW H × List MemPlace} (h : DataW.trod enc Try.prog W 0 (fun _ => true) true n 24 [v] = some y) : ∃ la lk lc L, v = .slice la lk lc ∧ EsIn W la L ∧ L.length = lk ∧ lk ≤ lc := by
 rcases open_slice Try.underlying24 h with ⟨hcs, _⟩ | ⟨a, len, cap', m, _, D, Pl, hcs, _, hl, hm, hz, _, hi⟩
 ·injection hcs with e _
  subst e
  exact ⟨none, 0, 0, [], rfl, fun i x hx => by simp at hx, rfl, Nat.le_refl _⟩
 ·injection hcs with e _
  subst e
  have hmn : len ≤ m := by rw [hz]; split <;> omega
  have key : ∀ i, i < len → ∃ x : Ev, ∃ g o, a = ⟨g, o, none⟩ ∧ EAt W g (o + i * 5) x := fun i hin => by
   obtain ⟨cs, hc, ht⟩ := hi i (by omega)
   rw [show Try.prog.cellsOf 47 = 5 by kernel_rfl] at hc
   obtain ⟨_, hcl, hat⟩ := World.cells?_some hc
   match cs, hcl with
   | [v0, v1, v2, v3, v4], _ =>
   have c0 := hat 0 (by omega)
   have c1 := hat 1 (by omega)
   have c2 := hat 2 (by omega)
   have c3 := hat 3 (by omega)
   have c4 := hat 4 (by omega)
   obtain ⟨x, rfl, rfl, rfl, rfl, rfl⟩ := eventC ht
   obtain ⟨cs', hc', _⟩ := hi 0 (by omega)
   rw [show Try.prog.cellsOf 47 = 5 by kernel_rfl] at hc'
   obtain ⟨_, hcl', hat'⟩ := World.cells?_some hc'
   have z0 := hat' 0 (by omega)
   rw [List.getElem?_eq_getElem (by omega)] at z0
   obtain ⟨b, off, spot⟩ := a
   have hspot : spot = none := by simpa [Addr.add] using World.cell?_spot z0
   subst hspot
   rw [Addr.add_mid, Addr.add_mid] at c0 c1 c2 c3 c4
   exact ⟨x, b, off, rfl, c0, c1, c2, c3, c4⟩
  obtain ⟨xs, hxl, hx⟩ := listC len key
  refine ⟨some a, len, cap', xs, rfl, fun j x hj => ?_, hxl, by omega⟩
  obtain ⟨g, o, rfl, hq⟩ := hx j x hj
  exact ⟨g, o, rfl, hq⟩
end Go.Proofs.Ytmbjfmlicffclaa

/-
  A slice of small acts among the arguments.
-/
namespace Go.Proofs.Ytmbjfmlicffclaa
open Go.ChangeShapes Go.WideShapes Go.ChangeAt Go.RowKit Go.Deep Go.Joins

set_option maxRecDepth 100000 in
theorem sm5_field {H : Type} {enc : TypeId × Value → H} {w : World} {n : Nat} {v0 v1 v2 v3 v4 : Value} {y : DataW H × List MemPlace} (h : DataW.trod enc Try.prog w 0 (fun _ => true) true n 74 [v0, v1, v2, v3, v4] = some y) : ∃ x : Sm5, x.ok ∧ v0 = .int .u8 x.t ∧ v1 = .int .u8 x.s ∧ v2 = .int .u8 x.q ∧ v3 = .int .u8 x.o ∧ v4 = .int .u8 x.l := by
 obtain ⟨ys, k, _, _, _, hyl, hfl⟩ := DataW.trod_struct Try.underlying74 h
 have hone : Try.prog.cellsOf 5 = 1 := by kernel_rfl
 have f0 : DataW.trod enc Try.prog w 0 (fun _ => true) true k 5 (([v0, v1, v2, v3, v4].drop 0).take (Try.prog.cellsOf 5)) = ys[0]? := hfl 0 _ rfl
 have f1 : DataW.trod enc Try.prog w 0 (fun _ => true) true k 5 (([v0, v1, v2, v3, v4].drop 1).take (Try.prog.cellsOf 5)) = ys[1]? := hfl 1 _ rfl
 have f2 : DataW.trod enc Try.prog w 0 (fun _ => true) true k 5 (([v0, v1, v2, v3, v4].drop 2).take (Try.prog.cellsOf 5)) = ys[2]? := hfl 2 _ rfl
 have f3 : DataW.trod enc Try.prog w 0 (fun _ => true) true k 5 (([v0, v1, v2, v3, v4].drop 3).take (Try.prog.cellsOf 5)) = ys[3]? := hfl 3 _ rfl
 have f4 : DataW.trod enc Try.prog w 0 (fun _ => true) true k 5 (([v0, v1, v2, v3, v4].drop 4).take (Try.prog.cellsOf 5)) = ys[4]? := hfl 4 _ rfl
 rw [hone] at f0 f1 f2 f3 f4
 have yl : ys.length = 5 := hyl
 have t0 : DataW.trod enc Try.prog w 0 (fun _ => true) true k 5 [v0] = some (ys[0]'(by omega)) := f0.trans (List.getElem?_eq_getElem _)
 have t1 : DataW.trod enc Try.prog w 0 (fun _ => true) true k 5 [v1] = some (ys[1]'(by omega)) := f1.trans (List.getElem?_eq_getElem _)
 have t2 : DataW.trod enc Try.prog w 0 (fun _ => true) true k 5 [v2] = some (ys[2]'(by omega)) := f2.trans (List.getElem?_eq_getElem _)
 have t3 : DataW.trod enc Try.prog w 0 (fun _ => true) true k 5 [v3] = some (ys[3]'(by omega)) := f3.trans (List.getElem?_eq_getElem _)
 have t4 : DataW.trod enc Try.prog w 0 (fun _ => true) true k 5 [v4] = some (ys[4]'(by omega)) := f4.trans (List.getElem?_eq_getElem _)
 obtain ⟨a0, rfl, l0, m0⟩ := smallC t0
 obtain ⟨a1, rfl, l1, m1⟩ := smallC t1
 obtain ⟨a2, rfl, l2, m2⟩ := smallC t2
 obtain ⟨a3, rfl, l3, m3⟩ := smallC t3
 obtain ⟨a4, rfl, l4, m4⟩ := smallC t4
 exact ⟨⟨a0, a1, a2, a3, a4⟩, ⟨⟨l0, m0⟩, ⟨l1, m1⟩, ⟨l2, m2⟩, ⟨l3, m3⟩, l4, m4⟩, rfl, rfl, rfl, rfl, rfl⟩
set_option maxRecDepth 100000 in
/-- A slice of small acts, opened. -/
theorem smcs_arg {base : Nat} {H : Type} {enc : TypeId × Value → H} {W : World} {v : Value} {d : DataW H} {ps : List MemPlace}
  (hval : Value.okWide Try.prog W .any base 37 v) (h : DataW.Trod enc Try.prog W 0 (fun _ => true) true 37 v d ps) : ∃ a n cap xs, v = .slice a n cap ∧ xs.length = n ∧ n ≤ cap ∧ SmcsIn W a xs := by
 obtain ⟨A, n, cap, rfl⟩ := okWide_slice Try.underlying37 hval
 obtain ⟨fuel, hf⟩ := h
 rcases open_slice Try.underlying37 hf with ⟨hcs, _⟩ | ⟨a, len, cap', m, _, D, Pl, hcs, _, hl, hm, hz, _, hi⟩
 ·simp [Value.cells] at hcs
  obtain ⟨rfl, rfl, rfl⟩ := hcs
  exact ⟨none, 0, 0, [], rfl, rfl, Nat.le_refl _, fun j x hj => by simp at hj⟩
 ·simp [Value.cells] at hcs
  obtain ⟨rfl, rfl, rfl⟩ := hcs
  have hmn : n ≤ m := by rw [hz]; split <;> omega
  have key : ∀ i, i < n → ∃ x : Smc, x.ok ∧ ∃ g o, a = ⟨g, o, none⟩ ∧ W.cell? ⟨g, o + i * 6, none⟩ = some (.int .u8 x.kind) ∧ W.cell? ⟨g, o + i * 6 + 1, none⟩ = some (.int .u8 x.x.t) ∧ W.cell? ⟨g, o + i * 6 + 2, none⟩ = some (.int .u8 x.x.s) ∧ W.cell? ⟨g, o + i * 6 + 3, none⟩ = some (.int .u8 x.x.q) ∧ W.cell? ⟨g, o + i * 6 + 4, none⟩ = some (.int .u8 x.x.o) ∧ W.cell? ⟨g, o + i * 6 + 5, none⟩ = some (.int .u8 x.x.l) := fun i hin => by
   obtain ⟨cs, hc, ht⟩ := hi i (by omega)
   rw [show Try.prog.cellsOf 85 = 6 by kernel_rfl] at hc
   obtain ⟨ys, k, _, _, _, hyl, hfl⟩ := DataW.trod_struct Try.underlying85 ht
   obtain ⟨_, hcl, hat⟩ := World.cells?_some hc
   have hone : Try.prog.cellsOf 5 = 1 := by kernel_rfl
   have hfive : Try.prog.cellsOf 74 = 5 := by kernel_rfl
   match cs, hcl with
   | [v0, v1, v2, v3, v4, v5], _ =>
   have c0 := hat 0 (by omega)
   have c1 := hat 1 (by omega)
   have c2 := hat 2 (by omega)
   have c3 := hat 3 (by omega)
   have c4 := hat 4 (by omega)
   have c5 := hat 5 (by omega)
   have f0 : DataW.trod enc Try.prog W 0 (fun _ => true) true k 5 (([v0, v1, v2, v3, v4, v5].drop 0).take (Try.prog.cellsOf 5)) = ys[0]? := hfl 0 _ rfl
   have f1 : DataW.trod enc Try.prog W 0 (fun _ => true) true k 74 (([v0, v1, v2, v3, v4, v5].drop 1).take (Try.prog.cellsOf 74)) = ys[1]? := hfl 1 _ rfl
   rw [hone] at f0
   rw [hfive] at f1
   have yl : ys.length = 2 := hyl
   have t0 : DataW.trod enc Try.prog W 0 (fun _ => true) true k 5 [v0] = some (ys[0]'(by omega)) := f0.trans (List.getElem?_eq_getElem _)
   have t1 : DataW.trod enc Try.prog W 0 (fun _ => true) true k 74 [v1, v2, v3, v4, v5] = some (ys[1]'(by omega)) := f1.trans (List.getElem?_eq_getElem _)
   obtain ⟨a0, rfl, l0, m0⟩ := smallC t0
   obtain ⟨x, hx, rfl, rfl, rfl, rfl, rfl⟩ := sm5_field t1
   obtain ⟨cs', hc', _⟩ := hi 0 (by omega)
   rw [show Try.prog.cellsOf 85 = 6 by kernel_rfl] at hc'
   obtain ⟨_, hcl', hat'⟩ := World.cells?_some hc'
   have z0 := hat' 0 (by omega)
   rw [List.getElem?_eq_getElem (by omega)] at z0
   obtain ⟨b, off, spot⟩ := a
   have hspot : spot = none := by simpa [Addr.add] using World.cell?_spot z0
   subst hspot
   rw [Addr.add_mid, Addr.add_mid] at c0 c1 c2 c3 c4 c5
   exact ⟨⟨a0, x⟩, ⟨⟨l0, m0⟩, hx⟩, b, off, rfl, c0, c1, c2, c3, c4, c5⟩
  obtain ⟨xs, hxl, hx⟩ := listC n key
  refine ⟨some a, n, cap, xs, rfl, hxl, by simpa using hl, fun j x hj => ?_⟩
  obtain ⟨hok, g, o, rfl, q0, q1, q2, q3, q4, q5⟩ := hx j x hj
  exact ⟨hok, g, o, rfl, q0, q1, q2, q3, q4, q5⟩
end Go.Proofs.Ytmbjfmlicffclaa

/-
  A row of acts, read.
-/
namespace Go.Proofs.Ytmbjfmlicffclaa
open Go Go.RowKit

def caL (a : Ca) : List Value := [.int .u8 a.kind, .int .i64 a.x.key.time, .int .i64 a.x.key.source, .int .i64 a.x.key.seq, .int .i64 a.x.to, .int .i64 a.x.value, .int .i64 a.time]
theorem caL_len : ∀ a : Ca, (caL a).length = 7 := fun _ => rfl
theorem flatCa_length (L : List Ca) : (flatCa L).length = L.length * 7 := by
 induction L with
 | nil => rfl
 | cons x r ih =>
  have e : flatCa (x :: r) = caL x ++ flatCa r := rfl
  rw [e, List.length_append, ih, caL_len, List.length_cons]; omega
theorem CasIn.of_flat {w : World} {g o : Nat} {L : List Ca} (h : ∀ j u, (flatCa L)[j]? = some u → w.cell? ⟨g, o + j, none⟩ = some u) : CasIn w (some ⟨g, o, none⟩) L := fun i x hx => by
 refine ⟨g, o, rfl, ?_, ?_, ?_, ?_, ?_, ?_, ?_⟩
 ·exact h (i * 7) _ (flat_some caL_len hx (j := 0) (by omega) rfl)
 ·rw [Nat.add_assoc]; exact h (i * 7 + 1) _ (flat_some caL_len hx (j := 1) (by omega) rfl)
 ·rw [Nat.add_assoc]; exact h (i * 7 + 2) _ (flat_some caL_len hx (j := 2) (by omega) rfl)
 ·rw [Nat.add_assoc]; exact h (i * 7 + 3) _ (flat_some caL_len hx (j := 3) (by omega) rfl)
 ·rw [Nat.add_assoc]; exact h (i * 7 + 4) _ (flat_some caL_len hx (j := 4) (by omega) rfl)
 ·rw [Nat.add_assoc]; exact h (i * 7 + 5) _ (flat_some caL_len hx (j := 5) (by omega) rfl)
 ·rw [Nat.add_assoc]; exact h (i * 7 + 6) _ (flat_some caL_len hx (j := 6) (by omega) rfl)
theorem CasIn.of_own {w : World} {base : Nat} {v : Value} {n : Nat} {L : List Ca} (h : w.ownsRow base 49 7 v n (flatCa L)) : ∃ a cap, v = .slice a n cap ∧ L.length = n ∧ n ≤ cap ∧ CasIn w a L := by
 have hl : L.length = n := by have := h.1; rw [flatCa_length] at this; omega
 rcases h.2 with ⟨rfl, h0⟩ | ⟨g, cap, cur, rfl, hb, hg, hn', hcm, hs, ht⟩
 ·have : L = [] := List.eq_nil_of_length_eq_zero (by omega)
  subst this
  exact ⟨none, 0, by rw [h0], hl, by omega, fun i x h => by simp at h⟩
 ·exact ⟨_, cap, rfl, hl, hn', CasIn.of_flat (fun j u hj => by
   rw [Nat.zero_add, cells_in hg, ← Array.getElem?_toList]
   rw [← ht, List.getElem?_take] at hj
   split at hj
   ·exact hj
   ·cases hj)⟩
theorem CasIn.take {w : World} {a : Option Addr} {L : List Ca} (h : CasIn w a L) (i : Nat) : CasIn w a (L.take i) := fun j x hx => by
 rw [List.getElem?_take] at hx
 split at hx
 ·exact h j x hx
 ·cases hx
theorem CasIn.drop {w : World} {g o : Nat} {L : List Ca} (h : CasIn w (some ⟨g, o, none⟩) L) (i : Nat) : CasIn w (some ⟨g, o + i * 7, none⟩) (L.drop i) := fun j x hx => by
 rw [List.getElem?_drop] at hx
 obtain ⟨g', o', e, hc⟩ := h (i + j) x hx
 injection e with e
 injection e with e1 e2
 subst e1 e2
 refine ⟨g, o + i * 7, rfl, ?_⟩
 rw [show o + i * 7 + j * 7 = o + (i + j) * 7 by omega]
 exact hc
end Go.Proofs.Ytmbjfmlicffclaa

/-
  slices.Grow and slices.Concat at what was told.
-/
namespace Go.Proofs
open Go.Shelf
def Try.growT_ren : Go.Shelf.Ren := ⟨fun | 4 => 53 | n => n, fun | 22 => 40 | 25 => 51 | 3 => 3 | 4 => 4 | 9 => 9 | 20 => 20 | 0 => 0 | n => n, fun | n => n⟩
theorem Try.growT : Go.Proofs.Lays8.n4 Try.prog Try.growT_ren := {
 mixed := by kernel_rfl
 f4 := ⟨Try.f53.name, by decide, Try.func53.trans (congrArg some (by kernel_rfl))⟩
 t0 := Try.underlying0
 a0 := Try.isAgg0
 z0 := Try.sizeOf0
 v0 := Try.zeroValue0
 t3 := Try.underlying3
 a3 := Try.isAgg3
 z3 := Try.sizeOf3
 v3 := Try.zeroValue3
 t4 := Try.underlying4
 a4 := Try.isAgg4
 z4 := Try.sizeOf4
 v4 := Try.zeroValue4
 t9 := Try.underlying9
 a9 := Try.isAgg9
 z9 := Try.sizeOf9
 v9 := Try.zeroValue9
 t20 := Try.underlying20
 a20 := Try.isAgg20
 z20 := Try.sizeOf20
 v20 := Try.zeroValue20
 t22 := Try.underlying40
 a22 := Try.isAgg40
 z22 := Try.sizeOf40
 v22 := Try.zeroValue40 }
end Go.Proofs
namespace Go.Proofs.Ytmbjfmlicffclaa
open Go Go.RowKit
attribute [local go_sem ↓] Go.wp_at_zero Go.wp_at_succ
attribute [local go_sem] Oper.semAt_some wide_fn wide_depth wide_fnR wide_depthR

theorem flatTd_one (L : List Td) : ∀ v ∈ flatTd L, v.oneCell' = true := fun v hv => by
 simp only [flatTd, List.mem_flatMap] at hv
 obtain ⟨p, _, hv⟩ := hv
 simp only [Td.cells, List.mem_cons, List.not_mem_nil, or_false] at hv
 rcases hv with rfl | rfl <;> rfl
theorem flatTd_append (a b : List Td) : flatTd (a ++ b) = flatTd a ++ flatTd b := by simp [flatTd]
theorem TdsIn.flat {w : World} {g o : Nat} {L : List Td} (h : TdsIn w (some ⟨g, o, none⟩) L) (j : Nat) (u : Value) (hj : (flatTd L)[j]? = some u) : w.cell? ⟨g, o + j, none⟩ = some u := by
 have hlt : j < L.length * 2 := by rw [← flatTd_length]; exact (List.getElem?_eq_some_iff.1 hj).1
 have hk : j / 2 < L.length := by omega
 obtain ⟨g', o', e, c0, c1⟩ := h (j / 2) L[j / 2] (List.getElem?_eq_getElem hk)
 injection e with e
 injection e with e1 e2
 subst e1; subst e2
 have h3 := flat_at td_len L (j / 2) (j % 2) (by omega)
 rw [show j / 2 * 2 + j % 2 = j by omega, List.getElem?_eq_getElem hk] at h3
 have h3 : some u = (L[j / 2].cells)[j % 2]? := hj.symm.trans h3
 have : j % 2 = 0 ∨ j % 2 = 1 := by omega
 rcases this with h | h
 ·rw [h] at h3; rw [show o + j = o + j / 2 * 2 by omega, h3]; exact c0
 ·rw [h] at h3; rw [show o + j = o + j / 2 * 2 + 1 by omega, h3]; exact c1
theorem TdsIn.src {w : World} {a : Option Addr} {L : List Td} {n : Nat} (h : TdsIn w a L) (hn : L.length = n) (cap : Nat) {tx e' : TypeId} (hk : Try.prog.underlying tx = some (.slice e')) : Src Try.prog 2 tx (.slice a n cap) n (flatTd L) w := by
 cases a with
 | none =>
  have hL : L = [] := by
   clear hn
   cases L with
   | nil => rfl
   | cons p r => obtain ⟨g, o, e, _⟩ := h 0 p rfl; cases e
  subst hL
  have hn : 0 = n := hn
  subst hn
  exact Src.ofNil w hk cap
 | some ad =>
  refine Src.ofSlice w hk ad n cap (flatTd L) (by rw [flatTd_length, hn]) (fun j u hj => ?_) (flatTd_one L)
  obtain ⟨g, o, s⟩ := ad
  obtain ⟨p, hp⟩ : ∃ p, L[0]? = some p := by
   cases L with
   | nil => simp [flatTd] at hj
   | cons p r => exact ⟨p, rfl⟩
  obtain ⟨g', o', e, _⟩ := h 0 p hp
  cases e
  rw [Addr.add_lit]
  exact h.flat j u hj
set_option maxRecDepth 100000 in
/-- Grow of nothing: an own row without elements. -/
theorem grow_nilT (n : Nat) (hn : n ≤ 1000) (w : World) : Calls Try.prog 53 #[.slice none 0 0, .int .i64 n] w fun e w' => ∃ v, e = .returned v ∧ w'.ownsRow w.heap.size 51 2 v 0 (flatTd []) ∧ Fr0 none' w w' := by
 obtain ⟨i0, hi, hz0, hz1, hz2⟩ := info_parts info_told
 by_cases h0 : n = 0
 ·subst h0
  have hg : Calls Try.prog 53 #[.slice none 0 0, .int .i64 ((0 : Nat) : Int)] w fun e w' => e = .returned (.slice none 0 0) ∧ w' = w := Any8.slices_Grow_room Try.growT none 0 0 0 w (Nat.zero_le 0) (Nat.zero_le _) (Nat.zero_le _) (Nat.zero_le 0)
  refine Calls.mono hg ?_
  intro e w' h
  obtain ⟨h1, h2⟩ := h
  subst h1
  subst h2
  exact ⟨_, rfl, World.ownsRow_nil _ _ _ _, Fr0.refl _ _⟩
 ·refine (Any8.slices_Grow_grow Try.growT i0 _ hi hz0 (by rw [hz1]; omega) none 0 0 n [] w (Nat.le_refl _) (by omega) (by rw [hz2]; omega) (by omega) (by simp) (fun _ => rfl) (fun a h => by cases h)).mono ?_
  rintro e w' ⟨rfl, rfl⟩
  have hge := grownCap_ge w (0 + n) 0 (Try.growT_ren.t 25)
  have hcm := grownCap_le_maxLen w (0 + n) 0 (Try.growT_ren.t 25) (by unfold maxLen; omega)
  refine ⟨_, rfl, ⟨by simp [flatTd], .inr ⟨w.heap.size, _, _, rfl, Nat.le_refl _, World.alloc_heap_new w.drew _, Nat.zero_le _, hcm, ?_, by simp [flatTd]⟩⟩, ((Fr0.refl _ _).drew).alloc _⟩
  simp only [Array.size_append, List.size_toArray, size_zeroCells]
  generalize grownCap w (0 + n) 0 (Try.growT_ren.t 25) = G at hge ⊢
  show 0 + (0 + n - 0) * 2 + (G - (0 + n)) * 2 = G * 2
  omega
/-- Two rows among the arguments. -/
structure TwoRowsT (w : World) (lb : Nat) (a1 a2 : Option Addr) (n1 n2 c1 c2 : Nat) (L1 L2 : List Td) : Prop where
 blk : w.heap[lb]? = some (.cells #[.slice a1 n1 c1, .slice a2 n2 c2] 40 (0, 0))
 r1 : TdsIn w a1 L1
 r2 : TdsIn w a2 L2
 l1 : L1.length = n1
 l2 : L2.length = n2
 m : n1 ≤ 400 ∧ n2 ≤ 400
theorem TwoRowsT.later {w w' : World} {lb : Nat} {a1 a2 : Option Addr} {n1 n2 c1 c2 : Nat} {L1 L2 : List Td} (h : TwoRowsT w lb a1 a2 n1 n2 c1 c2 L1 L2) (hf : Fr0 none' w w') : TwoRowsT w' lb a1 a2 n1 n2 c1 c2 L1 L2 :=
 ⟨(hf.block lb (Array.getElem?_eq_some_iff.1 h.blk).1 id).trans h.blk, h.r1.later hf, h.r2.later hf, h.l1, h.l2, h.m⟩
set_option maxRecDepth 100000 in
set_option maxHeartbeats 4000000 in
theorem Concat2T (lb : Nat) (a1 a2 : Option Addr) (n1 n2 c1 c2 : Nat) (L1 L2 : List Td) (w : World) (h : TwoRowsT w lb a1 a2 n1 n2 c1 c2 L1 L2) :
  Calls Try.prog 27 #[.slice (some ⟨lb, 0, none⟩) 2 2] w fun e w' => ∃ v, e = .returned v ∧ w'.ownsRow w.heap.size 51 2 v (n1 + n2) (flatTd (L1 ++ L2)) ∧ Fr0 none' w w' := by
 obtain ⟨i0, hi, hz0, hz1, hz2⟩ := info_parts info_told
 have H := Lib.hid h
 have HG := Lib.hid (fun W => grow_nilT (n1 + n2) (by have := h.m; omega) W)
 have hm := h.m
 have q1 : IntKind.i64.wrap (n1 : Int) = (n1 : Int) := IntWalk.i64_in _ (by omega)
 have q2 : IntKind.i64.wrap ((n1 : Int) + (n2 : Int)) = ((n1 + n2 : Nat) : Int) := by rw [IntWalk.i64_in _ (by omega)]; push_cast; rfl
 have y0 := cells_in h.blk 0
 have y1 := cells_in h.blk 1
 simp at y0 y1
 obtain ⟨s, hs⟩ : ∃ s, n1 + n2 = s := ⟨_, rfl⟩
 rw [hs] at q2 HG
 have Hs := Lib.hid hs
 have hs0 : decide ((s : Int) < 0) = false := decide_eq_false (by omega)
 have hn0 : decide ((n1 : Int) < 0) = false := decide_eq_false (by omega)
 clear h hs
 go_enter Try.func27, Try.ntmps27
 go_wp2_with fail
 refine wp_loop_rounds 3 ?_
 rw [rounds_succ]
 go_wp2_with fail
 rw [rounds_succ]
 go_wp2_with fail
 rw [rounds_succ]
 go_wp2_with fail
 clear y0 y1
 refine (HG.out _).mono ?_
 rintro e w1 ⟨v, rfl, hr, hf⟩
 have T := Lib.hid (H.out.later hf)
 have F1 := Lib.hid hf
 have R1 := Lib.hid hr
 clear hr hf
 have y0 := cells_in T.out.blk 0
 have y1 := cells_in T.out.blk 1
 simp at y0 y1
 go_wp2_with fail
 refine wp_loop_rounds 3 ?_
 rw [rounds_succ]
 have hsrc := T.out.r1.src T.out.l1 c1 Try.underlying40
 have Hsrc := Lib.hid hsrc
 clear hsrc
 go_wp2_with (at_builtin; refine wpList_append_k rfl _ _ 40 40 rfl w.heap.size 51 i0 (.agg #[.int .i64 0, .slice none 0 0]) 2 32 Try.underlying40 hi hz0 hz1 hz2 rfl (by decide) v 0 _ rfl R1.out (.slice a1 n1 c1) n1 _ rfl Hsrc.out (by unfold maxLen; omega) (by omega) F1.out.size ?_; intro v2 w2 hown hgrow hdr hob; have Hown := Lib.hid hown; have Hgr := Lib.hid hgrow; clear hown hgrow hdr hob y0 y1)
 have hR1 := R1.out.lt
 have f2 : Fr0 none' w w2 := F1.out.grown Hgr.out (fun k hk hlt => by have := (hR1 k hk).1; omega)
 have T2 := Lib.hid (H.out.later f2)
 have F2 := Lib.hid f2
 have Hsrc := Lib.hid (T2.out.r2.src T2.out.l2 c2 Try.underlying40)
 have y0 := cells_in T2.out.blk 0
 have y1 := cells_in T2.out.blk 1
 simp at y0 y1
 clear f2 hR1
 rw [rounds_succ]
 go_wp2_with (at_builtin; refine wpList_append_k rfl _ _ 40 40 rfl w.heap.size 51 i0 (.agg #[.int .i64 0, .slice none 0 0]) 2 32 Try.underlying40 hi hz0 hz1 hz2 rfl (by decide) v2 (0 + n1) _ rfl Hown.out (.slice a2 n2 c2) n2 _ rfl Hsrc.out (by unfold maxLen; omega) (by omega) F2.out.size ?_; intro v3 w3 hown hgrow hdr hob; have Hown3 := Lib.hid hown; have Hgr3 := Lib.hid hgrow; clear hown hgrow hdr hob y0 y1)
 have hR2 := Hown.out.lt
 have f3 : Fr0 none' w w3 := F2.out.grown Hgr3.out (fun k hk hlt => by have := (hR2 k hk).1; omega)
 have F3 := Lib.hid f3
 clear f3 hR2
 rw [rounds_succ]
 go_wp2_with fail
 go_ret
 refine ⟨v3, rfl, ?_, F3.out⟩
 have h1 := Hown3.out
 rw [Nat.zero_add] at h1
 rw [flatTd_append]
 exact h1
end Go.Proofs.Ytmbjfmlicffclaa

/-
  CalendarParts.
-/
namespace Go.Proofs.Ytmbjfmlicffclaa
open Go Go.RowKit
attribute [local go_sem ↓] Go.wp_at_zero Go.wp_at_succ
attribute [local go_sem] Oper.semAt_some wide_fn wide_depth wide_fnR wide_depthR

/-- Where the rest of a row of acts starts. -/
def dC (cap n : Nat) (a : Option Addr) : Option Addr := if cap = n then a else a.map (fun x => x.add (n * 7))
theorem casIn_nil (W : World) (a : Option Addr) : CasIn W a [] := fun i x hx => by simp at hx
theorem CasIn.rest {W : World} {a : Option Addr} {S : List Ca} (h : CasIn W a S) {cap : Nat} (hc : S.length ≤ cap) (n : Nat) : CasIn W (dC cap n a) (S.drop n) := by
 unfold dC
 split
 ·next e =>
  rw [List.drop_of_length_le (by omega)]
  exact casIn_nil W a
 ·cases a with
  | none =>
   intro i x hx
   rw [List.getElem?_drop] at hx
   obtain ⟨g, o, e, _⟩ := h _ x hx
   cases e
  | some A =>
   intro i x hx
   have hx' := hx
   rw [List.getElem?_drop] at hx'
   obtain ⟨g, o, e, _⟩ := h _ x hx'
   injection e with e
   subst e
   have h1 := h.drop n i x hx
   rw [Option.map_some, Addr.add_mid]
   exact h1
theorem esIn_nilC (W : World) (a : Option Addr) : EsIn W a [] := fun i x hx => by simp at hx
theorem kinds_acts (l : List Smc) : ∀ a ∈ l.map actC, 1 ≤ a.kind ∧ a.kind ≤ 5 := fun a ha => by
 obtain ⟨x, _, rfl⟩ := List.mem_map.1 ha
 exact kindC_ok x.kind
theorem kinds_wide {A : List Ca} (h : ∀ a ∈ A, 1 ≤ a.kind ∧ a.kind ≤ 5) : ∀ a ∈ A, 0 ≤ a.kind ∧ a.kind < 256 := fun a ha => by have := h a ha; omega
theorem tlC_le {n : Nat} : ∀ (A : List Ca) {E : List Ev}, GoodE n E → ∀ t ∈ tlC n E A, t.evs.length ≤ n
 | [], _, _, t, ht => by simp [tlC] at ht
 | a :: r, E, h, t, ht => by
  rw [tlC, List.mem_cons] at ht
  rcases ht with rfl | ht
  ·exact (told_good h a).le
  ·exact tlC_le r (h.act a) t ht
theorem TdEv.of_told {W : World} {ys : List Td} {T : List Tl} (hT : ys.map Td.tl = T) (h : ∀ y ∈ ys, EsIn W y.sa y.evs ∧ y.sn = y.evs.length) {m : Nat} (hm : m ≤ 10000) (hl : ∀ t ∈ T, t.evs.length ≤ m) : TdEv W ys := fun y hy => by
 obtain ⟨h1, h2⟩ := h y hy
 have h3 := hl y.tl (by rw [← hT]; exact List.mem_map.2 ⟨y, hy, rfl⟩)
 have h3 : y.evs.length ≤ m := h3
 exact ⟨h1, h2.symm, by omega⟩
set_option maxRecDepth 100000 in
set_option maxHeartbeats 4000000 in
theorem CalendarParts_any {w : World} {a : Option Addr} {m cap : Nat} {c u : Int} (l : List Smc) (h : SmcsIn w a l) (hl : l.length = m) (hc : m ≤ cap) (hc0 : 0 ≤ c ∧ c < 256) (hu0 : 0 ≤ u ∧ u < 256) :
  Calls Try.prog 8 #[.slice a m cap, .int .u8 c, .int .u8 u] w fun e w' => e = .returned (.bool true) ∧ Fr0 none' w w' := by
 obtain ⟨n, hn⟩ : ∃ n : Nat, c % 21 = (n : Int) := ⟨(c % 21).toNat, by omega⟩
 have hn1 : n ≤ 20 := by omega
 have q1 : Int.tmod c 21 = (n : Int) := by rw [Int.tmod_eq_emod_of_nonneg hc0.1, hn]
 have HA := Lib.hid (fun (W : World) => cawake_any W)
 have HX := Lib.hid (fun (W : World) (hf : Fr0 none' w W) => Acts_any (most := 100) l (h.later hf) hl hc (by omega))
 clear h hl hc hn hc0
 go_enter Try.func8, Try.ntmps8
 go_wp2_with fail
 refine (HA.out _).mono ?_
 rintro e w1 ⟨rfl, hf⟩
 have F := Lib.hid hf
 clear hf HA
 go_wp2_with fail
 refine (HX.out _ F.out).mono ?_
 rintro e w2 ⟨v, rfl, hr, hf⟩
 obtain ⟨A, hA⟩ : ∃ A, (l.take 100).map actC = A := ⟨_, rfl⟩
 have hk : ∀ x ∈ A, 1 ≤ x.kind ∧ x.kind ≤ 5 := by rw [← hA]; exact kinds_acts _
 have hM : A.length ≤ 100 := by rw [← hA, List.length_map, List.length_take]; omega
 rw [hA] at hr
 obtain ⟨M, hMl⟩ : ∃ M, A.length = M := ⟨_, rfl⟩
 rw [hMl] at hr hM
 obtain ⟨aa, ac, rfl, _, hac, hin⟩ := CasIn.of_own hr
 have F := Lib.hid (F.out.trans hf)
 have HI := Lib.hid hin
 have HK := Lib.hid hk
 have Hl := Lib.hid hMl
 obtain ⟨k, hk'⟩ : ∃ k : Nat, u % ((M + 1 : Nat) : Int) = (k : Int) := ⟨(u % ((M + 1 : Nat) : Int)).toNat, by have := Int.emod_nonneg u (show ((M + 1 : Nat) : Int) ≠ 0 by omega); omega⟩
 have hkM : k ≤ M := by have := Int.emod_lt_of_pos u (show 0 < ((M + 1 : Nat) : Int) by omega); omega
 have q2 : wrap64 u = u := IntWalk.wrap64_in u (by omega)
 have q3 : Int.tmod u ((M : Int) + 1) = (k : Int) := by rw [Int.tmod_eq_emod_of_nonneg hu0.1, ← hk']; push_cast; rfl
 clear hA hk hr hMl hin hf hu0 hk' HX
 go_wp2_with fail
 have HP := Play_told (n := 0) (cap := 0) (ca := ac) (playC_ok (GoodE.nil n) (by omega) HK.out) (esIn_nilC w2 none) rfl (by omega) (by omega) HI.out Hl.out (by omega) (kinds_wide HK.out)
 refine HP.mono ?_
 clear HP
 rintro e w3 ⟨oa, oc, la, lc, ys, rfl, hoc, ho, hys, hyt, hye, hf⟩
 obtain ⟨N, hN⟩ : ∃ N, (stC n [] A).length = N := ⟨_, rfl⟩
 obtain ⟨T, hT⟩ : ∃ T, (tlC n [] A).length = T := ⟨_, rfl⟩
 rw [hN, hT]
 have HI := Lib.hid (HI.out.later hf)
 have F := Lib.hid (F.out.trans hf)
 have HO := Lib.hid ho
 have HY := Lib.hid hys
 have HYT := Lib.hid hyt
 have HYE := Lib.hid (TdEv.of_told hyt hye (by omega) (tlC_le A (GoodE.nil n)))
 have HN := Lib.hid hN
 have HT := Lib.hid hT
 clear ho hys hyt hye hf hoc hN hT q1 q2 q3
 have z1 : (0 : Int) ≤ (k : Int) := by omega
 have z2 : (k : Int) ≤ (M : Int) := by omega
 have z3 : (k : Int) ≤ (ac : Int) := by omega
 have z4 : (M : Int) ≤ (ac : Int) := by omega
 go_wp2_with fail
 have hk1 : ∀ x ∈ A.take k, 1 ≤ x.kind ∧ x.kind ≤ 5 := fun x hx => HK.out x (List.mem_of_mem_take hx)
 have HP := Play_told (n := 0) (cap := 0) (m := k) (ca := ac) (playC_ok (GoodE.nil n) (by omega) hk1) (esIn_nilC w3 none) rfl (by omega) (by omega) (HI.out.take k) (by rw [List.length_take, Hl.out]; omega) (by omega) (kinds_wide hk1)
 refine HP.mono ?_
 clear HP
 rintro e w4 ⟨fa, fc, sa, sc, xs, rfl, hfc, hfi, hxs, hxt, hxe, hf⟩
 obtain ⟨E1, hE1⟩ : ∃ E, stC n [] (A.take k) = E := ⟨_, rfl⟩
 rw [hE1] at hfi hfc
 have hg1 : GoodE n E1 := by rw [← hE1]; exact GoodE.acts _ (GoodE.nil n)
 obtain ⟨N1, hN1⟩ : ∃ N, E1.length = N := ⟨_, rfl⟩
 obtain ⟨T1, hT1⟩ : ∃ T, (tlC n [] (A.take k)).length = T := ⟨_, rfl⟩
 rw [hE1, hN1, hT1]
 rw [hN1] at hfc
 have hn1' : N1 ≤ n := by rw [← hN1]; exact hg1.le
 have HI := Lib.hid (HI.out.later hf)
 have F := Lib.hid (F.out.trans hf)
 have HO := Lib.hid (HO.out.later hf)
 have HY := Lib.hid (HY.out.later hf)
 have HYE := Lib.hid (HYE.out.later hf)
 have HE := Lib.hid hfi
 have HX := Lib.hid hxs
 have HXT := Lib.hid hxt
 have HXE := Lib.hid (TdEv.of_told hxt hxe (by omega) (tlC_le (A.take k) (GoodE.nil n)))
 have HE1 := Lib.hid hE1
 have HG1 := Lib.hid hg1
 have HN1 := Lib.hid hN1
 have HT1 := Lib.hid hT1
 clear hfi hxs hxt hxe hf hE1 hg1 hN1 hT1 hk1
 go_wp2_with fail
 ·skip
  have hd : CasIn w4 aa (A.drop k) := by
   have := HI.out.rest (cap := ac) (by rw [Hl.out]; omega) k
   unfold dC at this
   rwa [if_pos h] at this
  have hk2 : ∀ x ∈ A.drop k, 1 ≤ x.kind ∧ x.kind ≤ 5 := fun x hx => HK.out x (List.mem_of_mem_drop hx)
  have HP := Play_told (n := N1) (cap := fc) (m := M - k) (ca := 0) (playC_ok HG1.out (by omega) hk2) HE.out HN1.out (by omega) hfc hd (by rw [List.length_drop, Hl.out]) (by omega) (kinds_wide hk2)
  refine HP.mono ?_
  clear HP hd
  rintro e w5 ⟨ga, gc, ra, rc, zs, rfl, hgc, hg, hzs, hzt, hze, hf⟩
  have hst : stC n E1 (A.drop k) = stC n [] A := by rw [← HE1.out, ← stC_append, List.take_append_drop]
  have htl : tlC n [] A = tlC n [] (A.take k) ++ tlC n E1 (A.drop k) := by rw [← HE1.out, ← tlC_append, List.take_append_drop]
  rw [hst] at hg hgc
  obtain ⟨T2, hT2⟩ : ∃ T, (tlC n E1 (A.drop k)).length = T := ⟨_, rfl⟩
  rw [hst, HN.out, hT2]
  have HO := Lib.hid (HO.out.later hf)
  have HY := Lib.hid (HY.out.later hf)
  have HYE := Lib.hid (HYE.out.later hf)
  have HX := Lib.hid (HX.out.later hf)
  have HXE := Lib.hid (HXE.out.later hf)
  have F := Lib.hid (F.out.trans hf)
  have HG := Lib.hid hg
  have HZ := Lib.hid hzs
  have HZE := Lib.hid (TdEv.of_told hzt hze (by omega) (tlC_le (A.drop k) HG1.out))
  have HSum := Lib.hid (show (xs ++ zs).map Td.tl = ys.map Td.tl by rw [List.map_append, HXT.out, hzt, HYT.out, htl])
  have HxL := Lib.hid (show xs.length = T1 by rw [← HT1.out, ← HXT.out, List.length_map])
  have HzL := Lib.hid (show zs.length = T2 by rw [← hT2, ← hzt, List.length_map])
  have HyL := Lib.hid (show ys.length = T by rw [← HT.out, ← HYT.out, List.length_map])
  have hm1 : T1 ≤ 400 ∧ T2 ≤ 400 ∧ T ≤ 400 ∧ N ≤ 400 := by
   have e1 := tlC_length n (A.take k) []
   have e2 := tlC_length n (A.drop k) E1
   have e3 := tlC_length n A []
   rw [List.length_take, Hl.out, HT1.out] at e1
   rw [List.length_drop, Hl.out, hT2] at e2
   rw [Hl.out, HT.out] at e3
   have := (GoodE.acts A (GoodE.nil n)).le
   rw [HN.out] at this
   omega
  clear hg hzs hzt hze hf hst htl hgc hk2 hT2
  go_wp2_with fail
  have HS := Same_any ga oa N N gc oc _ _ w5 HN.out HN.out (by omega) (by omega) HG.out HO.out
  rw [decide_eq_true rfl] at HS
  refine HS.mono ?_
  clear HS
  rintro e w6 ⟨rfl, hf⟩
  have HY := Lib.hid (HY.out.later hf)
  have HYE := Lib.hid (HYE.out.later hf)
  have HX := Lib.hid (HX.out.later hf)
  have HXE := Lib.hid (HXE.out.later hf)
  have HZ := Lib.hid (HZ.out.later hf)
  have HZE := Lib.hid (HZE.out.later hf)
  have F := Lib.hid (F.out.trans hf)
  clear hf
  go_wp2_with fail
  have FW := Lib.hid (F.out.alloc (.cells #[.slice sa T1 sc, .slice ra T2 rc] 40))
  have fA : Fr0 none' w6 (w6.alloc (.cells #[.slice sa T1 sc, .slice ra T2 rc] 40)) := (Fr0.refl _ _).alloc _
  have HCt := Concat2T w6.heap.size sa ra T1 T2 sc rc xs zs (w6.alloc (.cells #[.slice sa T1 sc, .slice ra T2 rc] 40)) ⟨World.alloc_heap_new _ _, HX.out.later fA, HZ.out.later fA, HxL.out, HzL.out, hm1.1, hm1.2.1⟩
  refine HCt.mono ?_
  clear HCt
  rintro e w7 ⟨v7, rfl, hv7, hf⟩
  obtain ⟨qa, qc, rfl, hql, hq⟩ := TdsIn.of_own hv7
  have hf7 : Fr0 none' w6 w7 := fA.trans hf
  have HAl := alike_any qa la (T1 + T2) T qc lc (xs ++ zs) ys w7 hql HyL.out (by omega) (by omega) hq (HY.out.later hf7) (fun x hx => (List.mem_append.1 hx).elim (fun h => (HXE.out.later hf7) x h) (fun h => (HZE.out.later hf7) x h)) (HYE.out.later hf7)
  rw [decide_eq_true HSum.out] at HAl
  have HAl := Lib.hid HAl
  have F := Lib.hid (FW.out.trans hf)
  clear hv7 hq hf hf7 fA FW
  go_wp2_with fail
  refine HAl.out.mono ?_
  rintro e w8 ⟨rfl, hf⟩
  have F := Lib.hid (F.out.trans hf)
  clear hf HAl
  go_wp2_with fail
  go_ret
  exact ⟨rfl, F.out⟩
 ·skip
  have hd : CasIn w4 (aa.map (fun x => x.add (k * 7))) (A.drop k) := by
   have := HI.out.rest (cap := ac) (by rw [Hl.out]; omega) k
   unfold dC at this
   rwa [if_neg h] at this
  have hk2 : ∀ x ∈ A.drop k, 1 ≤ x.kind ∧ x.kind ≤ 5 := fun x hx => HK.out x (List.mem_of_mem_drop hx)
  have HP := Play_told (n := N1) (cap := fc) (m := M - k) (ca := ac - k) (playC_ok HG1.out (by omega) hk2) HE.out HN1.out (by omega) hfc hd (by rw [List.length_drop, Hl.out]) (by omega) (kinds_wide hk2)
  refine HP.mono ?_
  clear HP hd
  rintro e w5 ⟨ga, gc, ra, rc, zs, rfl, hgc, hg, hzs, hzt, hze, hf⟩
  have hst : stC n E1 (A.drop k) = stC n [] A := by rw [← HE1.out, ← stC_append, List.take_append_drop]
  have htl : tlC n [] A = tlC n [] (A.take k) ++ tlC n E1 (A.drop k) := by rw [← HE1.out, ← tlC_append, List.take_append_drop]
  rw [hst] at hg hgc
  obtain ⟨T2, hT2⟩ : ∃ T, (tlC n E1 (A.drop k)).length = T := ⟨_, rfl⟩
  rw [hst, HN.out, hT2]
  have HO := Lib.hid (HO.out.later hf)
  have HY := Lib.hid (HY.out.later hf)
  have HYE := Lib.hid (HYE.out.later hf)
  have HX := Lib.hid (HX.out.later hf)
  have HXE := Lib.hid (HXE.out.later hf)
  have F := Lib.hid (F.out.trans hf)
  have HG := Lib.hid hg
  have HZ := Lib.hid hzs
  have HZE := Lib.hid (TdEv.of_told hzt hze (by omega) (tlC_le (A.drop k) HG1.out))
  have HSum := Lib.hid (show (xs ++ zs).map Td.tl = ys.map Td.tl by rw [List.map_append, HXT.out, hzt, HYT.out, htl])
  have HxL := Lib.hid (show xs.length = T1 by rw [← HT1.out, ← HXT.out, List.length_map])
  have HzL := Lib.hid (show zs.length = T2 by rw [← hT2, ← hzt, List.length_map])
  have HyL := Lib.hid (show ys.length = T by rw [← HT.out, ← HYT.out, List.length_map])
  have hm1 : T1 ≤ 400 ∧ T2 ≤ 400 ∧ T ≤ 400 ∧ N ≤ 400 := by
   have e1 := tlC_length n (A.take k) []
   have e2 := tlC_length n (A.drop k) E1
   have e3 := tlC_length n A []
   rw [List.length_take, Hl.out, HT1.out] at e1
   rw [List.length_drop, Hl.out, hT2] at e2
   rw [Hl.out, HT.out] at e3
   have := (GoodE.acts A (GoodE.nil n)).le
   rw [HN.out] at this
   omega
  clear hg hzs hzt hze hf hst htl hgc hk2 hT2
  go_wp2_with fail
  have HS := Same_any ga oa N N gc oc _ _ w5 HN.out HN.out (by omega) (by omega) HG.out HO.out
  rw [decide_eq_true rfl] at HS
  refine HS.mono ?_
  clear HS
  rintro e w6 ⟨rfl, hf⟩
  have HY := Lib.hid (HY.out.later hf)
  have HYE := Lib.hid (HYE.out.later hf)
  have HX := Lib.hid (HX.out.later hf)
  have HXE := Lib.hid (HXE.out.later hf)
  have HZ := Lib.hid (HZ.out.later hf)
  have HZE := Lib.hid (HZE.out.later hf)
  have F := Lib.hid (F.out.trans hf)
  clear hf
  go_wp2_with fail
  have FW := Lib.hid (F.out.alloc (.cells #[.slice sa T1 sc, .slice ra T2 rc] 40))
  have fA : Fr0 none' w6 (w6.alloc (.cells #[.slice sa T1 sc, .slice ra T2 rc] 40)) := (Fr0.refl _ _).alloc _
  have HCt := Concat2T w6.heap.size sa ra T1 T2 sc rc xs zs (w6.alloc (.cells #[.slice sa T1 sc, .slice ra T2 rc] 40)) ⟨World.alloc_heap_new _ _, HX.out.later fA, HZ.out.later fA, HxL.out, HzL.out, hm1.1, hm1.2.1⟩
  refine HCt.mono ?_
  clear HCt
  rintro e w7 ⟨v7, rfl, hv7, hf⟩
  obtain ⟨qa, qc, rfl, hql, hq⟩ := TdsIn.of_own hv7
  have hf7 : Fr0 none' w6 w7 := fA.trans hf
  have HAl := alike_any qa la (T1 + T2) T qc lc (xs ++ zs) ys w7 hql HyL.out (by omega) (by omega) hq (HY.out.later hf7) (fun x hx => (List.mem_append.1 hx).elim (fun h => (HXE.out.later hf7) x h) (fun h => (HZE.out.later hf7) x h)) (HYE.out.later hf7)
  rw [decide_eq_true HSum.out] at HAl
  have HAl := Lib.hid HAl
  have F := Lib.hid (FW.out.trans hf)
  clear hv7 hq hf hf7 fA FW
  go_wp2_with fail
  refine HAl.out.mono ?_
  rintro e w8 ⟨rfl, hf⟩
  have F := Lib.hid (F.out.trans hf)
  clear hf HAl
  go_wp2_with fail
  go_ret
  exact ⟨rfl, F.out⟩
end Go.Proofs.Ytmbjfmlicffclaa

namespace Go.Proofs.Ytmbjfmlicffclaa.calendarParts
open Go.ChangeShapes Go.WideShapes Go.ChangeAt Go.RowKit Go.Proofs.Ytmbjfmlicffclaa

set_option maxRecDepth 100000 in
theorem lifted (os : Os) (started : os.Started) (H : Type) (enc : TypeId × Value → H) :
  ReturnsInHanded {} Try.checked os 8 .any (Rows.calendarPartsSpec.pre6 enc Try.prog Try.f8 Rows.calendarPartsRow.domain false) (Rows.calendarPartsSpec.post enc Try.prog Try.f8 false true false false) := by
 refine returnsInHanded_of_change (C := Try.checked) knobC started (by kernel_rfl) Try.func8
  (ChangeSpec.witness6 (enc := enc) (C := Try.checked) false ⟨#[], #[.slice none 0 0, .int .u8 0, .int .u8 0], []⟩ 8 (by kernel_rfl) (by kernel_rfl) (by kernel_rfl) (by kernel_rfl)) ?_
 intro W base args ds gs before hval0 hW hcnd _
 have hval : ∀ (j : Nat) t v, Try.f8.params[j]? = some t → args[j]? = some v → Value.okWide Try.prog W .any base t v := hval0
 have hW' := hW
 obtain ⟨p, q, hA0, hV, rfl, hfz, hnd⟩ := hW
 have hA : DataW.TrodAll enc Try.prog W 0 (fun _ => true) true Try.f8.params.toList args.toList ds p := hA0
 rw [Try.params8] at hA hval
 obtain ⟨v0, vs0, d0, ds0, p0, q0, hargs, rfl, rfl, h0, r0⟩ := trodAll_cons hA
 obtain ⟨v1, vs1, d1, ds1, p1, q1, rfl, rfl, rfl, h1, r1⟩ := trodAll_cons r0
 obtain ⟨v2, vs2, d2, ds2, p2, q2, rfl, rfl, rfl, h2, r2⟩ := trodAll_cons r1
 obtain ⟨rfl, rfl, rfl⟩ := trodAll_nil r2
 obtain rfl : args = #[v0, v1, v2] := by cases args; simp_all
 obtain ⟨rfl, rfl⟩ := trodVars_none hV
 clear hA0 hval0
 simp only [List.append_nil] at hW'
 have l0 : ∀ x ∈ p0, x.block < W.heap.size := fun x hx => hW'.lt x (by simp [hx])
 have t0 := fun W' (hb : Below W.heap.size W W') => Below.trod laidC (by kernel_rfl) (of_decide_eq_true (by kernel_rfl)) h0 hb l0
 have l1 : ∀ x ∈ p1, x.block < W.heap.size := fun x hx => hW'.lt x (by simp [hx])
 have t1 := fun W' (hb : Below W.heap.size W W') => Below.trod laidC (by kernel_rfl) (of_decide_eq_true (by kernel_rfl)) h1 hb l1
 have l2 : ∀ x ∈ p2, x.block < W.heap.size := fun x hx => hW'.lt x (by simp [hx])
 have t2 := fun W' (hb : Below W.heap.size W W') => Below.trod laidC (by kernel_rfl) (of_decide_eq_true (by kernel_rfl)) h2 hb l2
 obtain ⟨a0, n0, c0, xs0, rfl, hl0, hc0, hx0⟩ := smcs_arg (hval 0 37 v0 rfl rfl) h0
 obtain ⟨a1, rfl, _, _, w1⟩ := open_int Try.underlying5 (hval 1 5 v1 rfl rfl) h1
 have b1 : 0 ≤ a1 ∧ a1 < 256 := by
  have := bounds_u8 w1
  omega
 obtain ⟨a2, rfl, _, _, w2⟩ := open_int Try.underlying5 (hval 2 5 v2 rfl rfl) h2
 have b2 : 0 ≤ a2 ∧ a2 < 256 := by
  have := bounds_u8 w2
  omega
 refine (CalendarParts_any xs0 hx0 hl0 hc0 b1 b2).mono fun e W' ⟨he, hf⟩ => ?_
 have hg : Below W.heap.size W W' := hf.below (Nat.le_refl _) (fun _ _ h => h)
 subst he
 exact ⟨_, rfl, post_belowC (pa := p0 ++ (p1 ++ (p2 ++ ([])))) (pv := []) hW' (fun _ _ _ => (trodAll_cons_mk (shut_bool Try.underlying4 _) trodAll_mk0)) (trodAll_cons_mk (t0 _ hg) (trodAll_cons_mk (t1 _ hg) (trodAll_cons_mk (t2 _ hg) trodAll_mk0))) (fun _ _ => rfl) hg⟩

theorem over : Rows.calendarPartsRow.holds Try.pinned (OpenSpec.ofChange Rows.calendarPartsSpec) :=
 OpenClaim.holds_of_wide 8 Try.f8 rfl rfl rfl rfl rfl rfl rfl ⟨rfl, rfl, rfl, rfl, rfl⟩ rfl rfl rfl rfl rfl (by kernel_rfl) Try.func8 (by kernel_rfl)
  (of_decide_eq_true (by kernel_rfl)) (by unfold Func.isWrapper; first | (rw [if_pos (by decide +kernel)]; kernel_rfl) | (rw [if_neg (by decide +kernel)]; exact ⟨rfl, rfl⟩))
  (fun os started H enc _ => lifted os started H enc)

theorem proved : Rows.CalendarPartsSaid := over
#print axioms proved
end Go.Proofs.Ytmbjfmlicffclaa.calendarParts
