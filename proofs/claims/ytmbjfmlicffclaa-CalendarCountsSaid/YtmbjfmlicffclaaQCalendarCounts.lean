/- CalendarCounts: the statement: for any input the law returns true, and the arguments read as before; no condition. -/
import Derived.Test.YtmbjfmlicffclaaRows
import Derived.Test.YtmbjfmlicffclaaJb1
import Derived.WalkKit
import Derived.ProofKit
import Derived.OpenShut
import Derived.ChangeMaps5
import Derived.Carry
import Derived.Deep.Slices
import Derived.Deep.Fields
import Derived.ChangeSame
import Derived.Lib.SmallJoins
import Derived.Test.YtmbjfmlicffclaaJb2
import Derived.Test.YtmbjfmlicffclaaJa
set_option linter.unusedSimpArgs false
set_option linter.unusedVariables false

/-
  A slice of events among the arguments; the row's post (no text of the queue).
-/
namespace Go.Proofs.Ytmbjfmlicffclaa
open Go.ChangeShapes Go.WideShapes Go.ChangeAt Go.RowKit Go.Deep Go.Joins

theorem post_belowC {H : Type} {enc : TypeId × Value → H} {P : Program} {f : Func} {s : ChangeSpec} {apart fresh handsOn : Bool} {W W' : World} {args : Array Value} {v : Value} {ds gs : List (DataW H)} {before pa pv : List MemPlace}
  (hW : DataW.Whole enc P f.params.toList s.vars apart W args.toList ds gs before)
  (hres : ∀ (b : Nat) (sp : Nat → Bool) (hd : Bool), DataW.TrodAll enc P W' b sp hd f.resultTypes.toList (v.resultList f.resultTypes.size) (s.fn H (ds ++ gs)).results [])
  (hargs : DataW.TrodAll enc P W' 0 (fun b => decide (b < W.heap.size)) true f.params.toList args.toList (s.fn H (ds ++ gs)).args pa)
  (hvars : ∀ sp : Nat → Bool, (∀ p ∈ before, sp p.block = true) → DataW.TrodVars enc P W' sp s.vars (s.fn H (ds ++ gs)).vars pv)
  (hb : Below W.heap.size W W') :
  s.post enc P f apart fresh handsOn false W args v W' := by
 have hold : ∀ p ∈ before, (fun b => decide (b < W.heap.size)) p.block = true := fun p hp => by simpa using hW.lt p hp
 exact ⟨ds, gs, before, [], pa, pv, hW, hres _ _ _, hargs, hvars _ hold, hb.frame _, fun h => by cases h⟩
theorem laidC : laidOutB Try.prog = true := by kernel_rfl
theorem knobC : ownKnob Try.prog.godebug = none := by kernel_rfl

theorem listC {α : Type} {P : Nat → α → Prop} : ∀ n, (∀ i, i < n → ∃ x, P i x) → ∃ xs : List α, xs.length = n ∧ ∀ j x, xs[j]? = some x → P j x
 | 0, _ => ⟨[], rfl, fun j x h => by simp at h⟩
 | n + 1, h => by
  obtain ⟨xs, hl, hx⟩ := listC n (fun i hi => h i (by omega))
  obtain ⟨x, hp⟩ := h n (by omega)
  refine ⟨xs ++ [x], by simp [hl], fun j y hj => ?_⟩
  rcases Nat.lt_or_ge j xs.length with hjl | hjl
  ·rw [List.getElem?_append_left hjl] at hj; exact hx j y hj
  ·rw [List.getElem?_append_right hjl] at hj
   have : j - xs.length = 0 := by
    rcases Nat.eq_zero_or_pos (j - xs.length) with h0 | h0
    ·exact h0
    ·rw [List.getElem?_eq_none (by simp; omega)] at hj; cases hj
   rw [this] at hj
   simp at hj
   subst hj
   rw [show j = n by omega]; exact hp
theorem intC {H : Type} {enc : TypeId × Value → H} {w : World} {n : Nat} {v : Value} {y : DataW H × List MemPlace} (h : DataW.trod enc Try.prog w 0 (fun _ => true) true n 3 [v] = some y) : ∃ a, v = .int .i64 a := by
 obtain ⟨a, h1, _, hw⟩ := DataW.trod_int Try.underlying3 h
 injection h1 with h1 _
 exact ⟨a, h1⟩
theorem int64C {H : Type} {enc : TypeId × Value → H} {w : World} {n : Nat} {v : Value} {y : DataW H × List MemPlace} (h : DataW.trod enc Try.prog w 0 (fun _ => true) true n 2 [v] = some y) : ∃ a, v = .int .i64 a := by
 obtain ⟨a, h1, _, hw⟩ := DataW.trod_int Try.underlying2 h
 injection h1 with h1 _
 exact ⟨a, h1⟩
set_option maxRecDepth 100000 in
theorem keyC {H : Type} {enc : TypeId × Value → H} {w : World} {n : Nat} {v0 v1 v2 : Value} {y : DataW H × List MemPlace} (h : DataW.trod enc Try.prog w 0 (fun _ => true) true n 45 [v0, v1, v2] = some y) : ∃ k : Key3, v0 = .int .i64 k.time ∧ v1 = .int .i64 k.source ∧ v2 = .int .i64 k.seq := by
 obtain ⟨ys, k, _, _, _, hyl, hfl⟩ := DataW.trod_struct Try.underlying45 h
 have hone : Try.prog.cellsOf 3 = 1 := by kernel_rfl
 have f0 : DataW.trod enc Try.prog w 0 (fun _ => true) true k 3 (([v0, v1, v2].drop 0).take (Try.prog.cellsOf 3)) = ys[0]? := hfl 0 _ rfl
 have f1 : DataW.trod enc Try.prog w 0 (fun _ => true) true k 3 (([v0, v1, v2].drop 1).take (Try.prog.cellsOf 3)) = ys[1]? := hfl 1 _ rfl
 have f2 : DataW.trod enc Try.prog w 0 (fun _ => true) true k 3 (([v0, v1, v2].drop 2).take (Try.prog.cellsOf 3)) = ys[2]? := hfl 2 _ rfl
 rw [hone] at f0 f1 f2
 have yl : ys.length = 3 := hyl
 have t0 : DataW.trod enc Try.prog w 0 (fun _ => true) true k 3 [v0] = some (ys[0]'(by omega)) := f0.trans (List.getElem?_eq_getElem _)
 have t1 : DataW.trod enc Try.prog w 0 (fun _ => true) true k 3 [v1] = some (ys[1]'(by omega)) := f1.trans (List.getElem?_eq_getElem _)
 have t2 : DataW.trod enc Try.prog w 0 (fun _ => true) true k 3 [v2] = some (ys[2]'(by omega)) := f2.trans (List.getElem?_eq_getElem _)
 obtain ⟨a0, rfl⟩ := intC t0
 obtain ⟨a1, rfl⟩ := intC t1
 obtain ⟨a2, rfl⟩ := intC t2
 exact ⟨⟨a0, a1, a2⟩, rfl, rfl, rfl⟩
set_option maxRecDepth 100000 in
theorem eventC {H : Type} {enc : TypeId × Value → H} {w : World} {n : Nat} {v0 v1 v2 v3 v4 : Value} {y : DataW H × List MemPlace} (h : DataW.trod enc Try.prog w 0 (fun _ => true) true n 47 [v0, v1, v2, v3, v4] = some y) : ∃ x : Ev, v0 = .int .i64 x.key.time ∧ v1 = .int .i64 x.key.source ∧ v2 = .int .i64 x.key.seq ∧ v3 = .int .i64 x.to ∧ v4 = .int .i64 x.value := by
 obtain ⟨ys, k, _, _, _, hyl, hfl⟩ := DataW.trod_struct Try.underlying47 h
 have hone : Try.prog.cellsOf 3 = 1 := by kernel_rfl
 have hone6 : Try.prog.cellsOf 2 = 1 := by kernel_rfl
 have hthree : Try.prog.cellsOf 45 = 3 := by kernel_rfl
 have f0 : DataW.trod enc Try.prog w 0 (fun _ => true) true k 45 (([v0, v1, v2, v3, v4].drop 0).take (Try.prog.cellsOf 45)) = ys[0]? := hfl 0 _ rfl
 have f1 : DataW.trod enc Try.prog w 0 (fun _ => true) true k 3 (([v0, v1, v2, v3, v4].drop 3).take (Try.prog.cellsOf 3)) = ys[1]? := hfl 1 _ rfl
 have f2 : DataW.trod enc Try.prog w 0 (fun _ => true) true k 2 (([v0, v1, v2, v3, v4].drop 4).take (Try.prog.cellsOf 2)) = ys[2]? := hfl 2 _ rfl
 rw [hthree] at f0
 rw [hone] at f1
 rw [hone6] at f2
 have yl : ys.length = 3 := hyl
 have t0 : DataW.trod enc Try.prog w 0 (fun _ => true) true k 45 [v0, v1, v2] = some (ys[0]'(by omega)) := f0.trans (List.getElem?_eq_getElem _)
 have t1 : DataW.trod enc Try.prog w 0 (fun _ => true) true k 3 [v3] = some (ys[1]'(by omega)) := f1.trans (List.getElem?_eq_getElem _)
 have t2 : DataW.trod enc Try.prog w 0 (fun _ => true) true k 2 [v4] = some (ys[2]'(by omega)) := f2.trans (List.getElem?_eq_getElem _)
 obtain ⟨kk, rfl, rfl, rfl⟩ := keyC t0
 obtain ⟨a1, rfl⟩ := intC t1
 obtain ⟨a2, rfl⟩ := int64C t2
 exact ⟨⟨kk, a1, a2⟩, rfl, rfl, rfl, rfl, rfl⟩
set_option maxRecDepth 100000 in
/-- A slice of events in memory. -/
theorem eventsC {H : Type} {enc : TypeId × Value → H} {W : World} {n : Nat} {v : Value} {y : DataW H × List MemPlace} (h : DataW.trod enc Try.prog W 0 (fun _ => true) true n 24 [v] = some y) : ∃ la lk lc L, v = .slice la lk lc ∧ EsIn W la L ∧ L.length = lk ∧ lk ≤ lc := by
 rcases open_slice Try.underlying24 h with ⟨hcs, _⟩ | ⟨a, len, cap', m, _, D, Pl, hcs, _, hl, hm, hz, _, hi⟩
 ·injection hcs with e _
  subst e
  exact ⟨none, 0, 0, [], rfl, fun i x hx => by simp at hx, rfl, Nat.le_refl _⟩
 ·injection hcs with e _
  subst e
  have hmn : len ≤ m := by rw [hz]; split <;> omega
  have key : ∀ i, i < len → ∃ x : Ev, ∃ g o, a = ⟨g, o, none⟩ ∧ EAt W g (o + i * 5) x := fun i hin => by
   obtain ⟨cs, hc, ht⟩ := hi i (by omega)
   rw [show Try.prog.cellsOf 47 = 5 by kernel_rfl] at hc
   obtain ⟨_, hcl, hat⟩ := World.cells?_some hc
   match cs, hcl with
   | [v0, v1, v2, v3, v4], _ =>
   have c0 := hat 0 (by omega)
   have c1 := hat 1 (by omega)
   have c2 := hat 2 (by omega)
   have c3 := hat 3 (by omega)
   have c4 := hat 4 (by omega)
   obtain ⟨x, rfl, rfl, rfl, rfl, rfl⟩ := eventC ht
   obtain ⟨cs', hc', _⟩ := hi 0 (by omega)
   rw [show Try.prog.cellsOf 47 = 5 by kernel_rfl] at hc'
   obtain ⟨_, hcl', hat'⟩ := World.cells?_some hc'
   have z0 := hat' 0 (by omega)
   rw [List.getElem?_eq_getElem (by omega)] at z0
   obtain ⟨b, off, spot⟩ := a
   have hspot : spot = none := by simpa [Addr.add] using World.cell?_spot z0
   subst hspot
   rw [Addr.add_mid, Addr.add_mid] at c0 c1 c2 c3 c4
   exact ⟨x, b, off, rfl, c0, c1, c2, c3, c4⟩
  obtain ⟨xs, hxl, hx⟩ := listC len key
  refine ⟨some a, len, cap', xs, rfl, fun j x hj => ?_, hxl, by omega⟩
  obtain ⟨g, o, rfl, hq⟩ := hx j x hj
  exact ⟨g, o, rfl, hq⟩
set_option maxRecDepth 100000 in
theorem events_argC {base : Nat} {H : Type} {enc : TypeId × Value → H} {W : World} {v : Value} {d : DataW H} {ps : List MemPlace}
  (hval : Value.okWide Try.prog W .any base 24 v) (h : DataW.Trod enc Try.prog W 0 (fun _ => true) true 24 v d ps) :
  ∃ la lk lc L, v = .slice la lk lc ∧ EsIn W la L ∧ L.length = lk ∧ lk ≤ lc := by
 obtain ⟨A, n, cap, rfl⟩ := okWide_slice Try.underlying24 hval
 obtain ⟨fuel, hf⟩ := h
 exact eventsC hf
end Go.Proofs.Ytmbjfmlicffclaa

/-
  calendar: Times.
-/
namespace Go.Proofs.Ytmbjfmlicffclaa
open Go Go.RowKit
attribute [local go_sem ↓] Go.wp_at_zero Go.wp_at_succ
attribute [local go_sem] Oper.semAt_some wide_fn wide_depth wide_fnR wide_depthR

theorem info_intC : (Try.prog.info? 3).map (fun i => (i.zero, i.size, i.bytes)) = some (some (.int .i64 0), 1, 8) := by kernel_rfl
def timesE (L : List Ev) : List Int := L.map (·.key.time)
/-- The times, each once. -/
def timesC (L : List Ev) : List Int := Lib.compact (timesE L)
theorem timesE_snoc {L : List Ev} {k : Nat} {x : Ev} (h : L[k]? = some x) : (timesE (L.take (k + 1))).map (Value.int .i64) = (timesE (L.take k)).map (Value.int .i64) ++ [Value.int .i64 x.key.time] := by
 unfold timesE
 rw [List.take_add_one, h]
 simp
theorem Compact_zeroI (a : Option Addr) (cap : Nat) (w : World) : Calls Try.prog 36 #[.slice a 0 cap] w fun e w' => e = .returned (.slice a 0 cap) ∧ w = w' := by
 go_enter Try.func36, Try.ntmps36
 go_wp2
 go_ret
 exact ⟨rfl, rfl⟩
set_option maxRecDepth 100000 in
set_option maxHeartbeats 2000000 in
theorem Times_any {w : World} {a : Option Addr} {n cap : Nat} (L : List Ev) (h : EsIn w a L) (hl : L.length = n) (hn : n ≤ 10000) :
  Calls Try.prog 14 #[.slice a n cap] w fun e w' => ∃ v, e = .returned (.tuple #[v, .int .i64 (if AscE L then 0 else 110)]) ∧ w'.ownsRow w.heap.size 3 1 v (if AscE L then (timesC L).length else 0) ((if AscE L then timesC L else []).map (Value.int .i64)) ∧ Fr0 none' w w' := by
 obtain ⟨i0, hi, hz0, hz1, hz2⟩ := info_parts info_intC
 have HS := Lib.hid (Sorted_any (cap := cap) L h hl hn)
 have H := Lib.hid h
 have Hl := Lib.hid hl
 obtain ⟨N, hN⟩ : ∃ N, w.heap.size = N := ⟨_, rfl⟩
 have HN := Lib.hid hN
 rw [hN]
 clear h hl hN
 by_cases ho : AscE L
 ·rw [show decide (AscE L) = true from decide_eq_true ho] at HS
  simp only [if_pos ho]
  clear ho
  go_enter Try.func14, Try.ntmps14
  go_wp2_with fail
  refine HS.out.mono ?_
  rintro e w1 ⟨rfl, hf⟩
  have F1 := Lib.hid hf
  have H1 := Lib.hid (H.out.later hf)
  clear hf
  go_wp2_with fail
  go_loopw [4, 12] (fun out i wr => ∃ k : Nat, k ≤ n ∧ i = .int .i64 k ∧ Hid (wr.ownsRow N 3 1 out k ((timesE (L.take k)).map (Value.int .i64))) ∧ Hid (Fr0 none' w wr)) (fun _ i _ => n - (Go.RowKit.intOf i).toNat)
  case atStart => exact ⟨0, Nat.zero_le _, rfl, World.ownsRow_nil _ _ _ _, F1⟩
  case round =>
   obtain ⟨k, hk, rfl, hown, hfr⟩ := hrel
   by_cases hlt : k < n
   ·obtain ⟨x, hx⟩ : ∃ x, L[k]? = some x := ⟨_, List.getElem?_eq_getElem (by rw [Hl.out]; exact hlt)⟩
    obtain ⟨g, o, rfl, hxc⟩ := (H.out.later hfr.out) k x hx
    obtain ⟨x0, x1, x2, x3, x4⟩ := hxc
    have k1 : (0 : Int) ≤ (k : Int) := by omega
    have k2 : (k : Int) < (n : Int) := by omega
    have hsrc := Src.newRow (P := Try.prog) (size := 1) (tx := 29) (ty := 3) (wr.alloc (.cells #[.int .i64 x.key.time, .int .i64 x.key.source, .int .i64 x.key.seq, .int .i64 x.to, .int .i64 x.value] 47)) Try.underlying29 1 1 [.int .i64 x.key.time] rfl (by simp [Value.oneCell'])
    rw [World.size_alloc] at hsrc
    have hNr : N ≤ wr.heap.size := by rw [← HN.out]; exact hfr.out.size
    have Hst := Lib.hid (timesE_snoc hx)
    have Hown2 := Lib.hid ((hown.out.alloc (.cells #[.int .i64 x.key.time, .int .i64 x.key.source, .int .i64 x.key.seq, .int .i64 x.to, .int .i64 x.value] 47)).alloc (.cells [Value.int .i64 x.key.time].toArray 3))
    have Fr2 := Lib.hid ((hfr.out.alloc (.cells #[.int .i64 x.key.time, .int .i64 x.key.source, .int .i64 x.key.seq, .int .i64 x.to, .int .i64 x.value] 47)).alloc (.cells [Value.int .i64 x.key.time].toArray 3))
    have Hsrc := Lib.hid hsrc
    obtain ⟨va, vc, rfl⟩ : ∃ va vc, u4 = .slice va k vc := by
     rcases hown.out.2 with ⟨rfl, h0⟩ | ⟨g, cap, cur, rfl, _⟩
     ·exact ⟨none, 0, by rw [h0]⟩
     ·exact ⟨_, cap, rfl⟩
    clear hx hsrc hown hfr
    go_wp2_with (at_builtin; refine wpList_append_k rfl _ _ 29 29 rfl N 3 i0 (.int .i64 0) 1 8 Try.underlying29 hi hz0 hz1 hz2 rfl (by decide) _ k _ rfl Hown2.out (.slice (some ⟨wr.heap.size + 1, 0, none⟩) 1 1) 1 _ rfl Hsrc.out (by unfold maxLen; omega) (by omega) (by simp; omega) ?_; intro v' w2 hown' hgrow hdr hob)
    have Hfin := Lib.hid (Fr2.out.grown hgrow (fun j hj hl => by
     have h1 := (Hown2.out.lt j hj).1
     rw [HN.out] at hl; omega))
    rw [← Hst.out] at hown'
    have Hown' := Lib.hid hown'
    obtain ⟨g', cap', rfl⟩ := ownsRow_k_succ hown'
    clear hgrow hdr hob hown'
    go_wp2
    go_roundw
    case rel => exact ⟨k + 1, by omega, by go_num, Hown', Hfin⟩
    case measure => simp [Go.RowKit.intOf]; omega
   ·have hkm : k = n := by omega
    subst hkm
    have hfin : wr.ownsRow N 3 1 u4 k ((timesE L).map (Value.int .i64)) := by
     have h1 := hown.out
     rw [List.take_of_length_le (by rw [Hl.out]; exact Nat.le_refl _)] at h1
     exact h1
    have Hf := Lib.hid hfin
    rcases hfin.2 with ⟨rfl, h0⟩ | ⟨g, cu, cur, rfl, _⟩
    ·have hLn : Hid (timesC L = []) := by
      have : L = [] := List.eq_nil_of_length_eq_zero (by rw [Hl.out]; exact h0)
      rw [this]; rfl
     have HZ := Lib.hid (Compact_zeroI none 0 wr)
     clear hown hfin h0
     go_wp2_with fail
     refine HZ.out.mono ?_
     rintro e w2 ⟨rfl, rfl⟩
     go_wp2_with fail
     go_ret2
     exact ⟨_, rfl, by rw [hLn.out]; exact World.ownsRow_nil _ _ _ _, hfr.out⟩
    ·have HC := Lib.hid (compact_row (timesE L) hfin (by omega))
     have Hlt := Lib.hid hfin.lt
     clear hown hfin
     go_wp2_with fail
     refine HC.out.mono ?_
     rintro e w2 ⟨rfl, hrow, hf2⟩
     have HR := Lib.hid hrow
     have HF := Lib.hid (hfr.out.trans' hf2 (fun k hk h => by have h1 := (Hlt.out g rfl).1; have h : k = g := h; rw [← HN.out] at h1; omega))
     clear hrow hf2
     go_wp2_with fail
     go_ret2
     exact ⟨_, rfl, HR.out, HF.out⟩
 ·rw [show decide (AscE L) = false from decide_eq_false ho] at HS
  simp only [if_neg ho]
  clear ho
  go_enter Try.func14, Try.ntmps14
  go_wp2_with fail
  refine HS.out.mono ?_
  rintro e w1 ⟨rfl, hf⟩
  have F1 := Lib.hid hf
  clear hf
  go_wp2_with fail
  go_ret2
  exact ⟨_, rfl, World.ownsRow_nil _ _ _ _, F1.out⟩
end Go.Proofs.Ytmbjfmlicffclaa

/-
  The reference's Sorted, Count, Times.
-/
namespace Go.Proofs.Ytmbjfmlicffclaa
open Go Go.RowKit
attribute [local go_sem ↓] Go.wp_at_zero Go.wp_at_succ
attribute [local go_sem] Oper.semAt_some wide_fn wide_depth wide_fnR wide_depthR

set_option maxRecDepth 100000 in
set_option maxHeartbeats 2000000 in
theorem rSorted_any {w : World} {a : Option Addr} {n cap : Nat} (L : List Ev) (h : EsIn w a L) (hl : L.length = n) (hn : n ≤ 10000) :
  Calls Try.prog 69 #[.slice a n cap] w fun e w' => e = .returned (.bool (decide (AscE L))) ∧ Fr0 none' w w' := by
 have H := Lib.hid h
 have Hl := Lib.hid hl
 obtain ⟨R, hR⟩ : ∃ R, decide (AscE L) = R := ⟨_, rfl⟩
 rw [hR]
 have HR := Lib.hid hR
 clear h hl hR
 go_enter Try.func69, Try.ntmps69
 go_wp2_with fail
 go_loopw [3] (fun i wr => ∃ k : Nat, 1 ≤ k ∧ (k ≤ n ∨ k = 1) ∧ i = .int .i64 k ∧ Hid (∀ j x y, j + 1 < k → L[j]? = some x → L[j + 1]? = some y → cmpK x.key y.key < 0) ∧ Hid (Fr0 none' w wr)) (fun i _ => n - (Go.RowKit.intOf i).toNat)
 case atStart => exact ⟨1, Nat.le_refl _, .inr rfl, rfl, fun j x y hj => by omega, Fr0.refl _ _⟩
 case round =>
  obtain ⟨k, hk1, hkn, rfl, hpre, hfr⟩ := hrel
  by_cases hlt : k < n
  ·obtain ⟨y, hy⟩ : ∃ y, L[k]? = some y := ⟨_, List.getElem?_eq_getElem (by rw [Hl.out]; exact hlt)⟩
   obtain ⟨x, hx⟩ : ∃ y, L[k - 1]? = some y := ⟨_, List.getElem?_eq_getElem (by rw [Hl.out]; omega)⟩
   obtain ⟨g2, o, rfl, hyc⟩ := H.out k y hy
   obtain ⟨g3, o3, e3, hxc⟩ := H.out (k - 1) x hx
   injection e3 with e3
   injection e3 with e3 e4
   subst e3 e4
   have HY := Lib.hid (hyc.later hfr.out)
   have HX := Lib.hid (hxc.later hfr.out)
   have Hy := Lib.hid hy
   have Hx := Lib.hid hx
   have k1 : (0 : Int) ≤ (k : Int) := by omega
   have k2 : (k : Int) < (n : Int) := by omega
   obtain ⟨j, hj⟩ : ∃ j, k - 1 = j := ⟨_, rfl⟩
   rw [hj] at HX Hx
   have hkj : k = j + 1 := by omega
   have hj1 : (k : Int) - 1 = (j : Int) := by omega
   have k3 : (0 : Int) ≤ (j : Int) := by omega
   have k4 : (j : Int) < (n : Int) := by omega
   have k5 : IntKind.i64.wrap ((k : Int) - 1) = (j : Int) := by rw [hj1]; exact IntWalk.i64_in _ (by omega)
   have HLs := Lib.hid (fun (W : World) => rLess_any x.key y.key W)
   simp only [keyV] at HLs
   have Hkj := Lib.hid hkj
   clear hx hxc hy hyc hj hj1 hkj
   by_cases hb : cmpK x.key y.key < 0
   ·rw [show decide (cmpK x.key y.key < 0) = true from decide_eq_true hb] at HLs
    have hnext := Lib.hid (show ∀ j' x' y', j' + 1 < k + 1 → L[j']? = some x' → L[j' + 1]? = some y' → cmpK x'.key y'.key < 0 from fun j' x' y' hj' hx' hy' => by
     by_cases h : j' + 1 < k
     ·exact hpre.out j' x' y' h hx' hy'
     ·have e : j' = j := by have := Hkj.out; omega
      subst e
      rw [Hx.out] at hx'
      rw [← Hkj.out, Hy.out] at hy'
      injection hx' with hx'
      injection hy' with hy'
      rw [← hx', ← hy']; exact hb)
    clear hb
    go_wp2_with fail
    refine wp_region_held_drew (S := fun W' => Fr0 none' wr W') (by kernel_rfl) ((Fr0.refl none' wr).drew) (fun hHeld => ?_)
    refine tkn (i := 0) (v := .slice (some ⟨g2, o, none⟩) n cap) (fun W' hSW => ?_) ?_
    ·first | (go_simp; done) | exact rfl | (go_simp; rfl) | (go_simp; omega)
    try simp only [pUt, pUn, sEt, sEz, sEs]
    refine tkn (i := 1) (v := .int .i64 (k : Int)) (fun W' hSW => ?_) ?_
    ·first | (go_simp; done) | exact rfl | (go_simp; rfl) | (go_simp; omega)
    try simp only [pUt, pUn, sEt, sEz, sEs]
    refine tkn (i := 2) (v := .int .i64 (j : Int)) (fun W' hSW => ?_) ?_
    ·first | (go_simp; done) | exact rfl | (go_simp; rfl) | (go_simp; omega)
    try simp only [pUt, pUn, sEt, sEz, sEs]
    refine tkn (i := 3) (v := .pointer (some ⟨g2, o + j * 5, none⟩)) (fun W' hSW => ?_) ?_
    ·first | (go_simp; done) | exact rfl | (go_simp; rfl) | (go_simp; omega)
    try simp only [pUt, pUn, sEt, sEz, sEs]
    refine tkn (i := 4) (v := .pointer (some ⟨g2, o + j * 5, none⟩)) (fun W' hSW => ?_) ?_
    ·first | (go_simp; done) | exact rfl | (go_simp; rfl) | (go_simp; omega)
    try simp only [pUt, pUn, sEt, sEz, sEs]
    refine tkn (i := 5) (v := .agg #[.int .i64 x.key.time, .int .i64 x.key.source, .int .i64 x.key.seq]) (fun W' hSW => ?_) ?_
    ·obtain ⟨x0, x1, x2, x3, x4⟩ := HX.out.later hSW
     first | (go_simp; done) | exact rfl | (go_simp; rfl) | (go_simp; omega)
    try simp only [pUt, pUn, sEt, sEz, sEs]
    refine tkn (i := 6) (v := .slice (some ⟨g2, o, none⟩) n cap) (fun W' hSW => ?_) ?_
    ·first | (go_simp; done) | exact rfl | (go_simp; rfl) | (go_simp; omega)
    try simp only [pUt, pUn, sEt, sEz, sEs]
    refine tkn (i := 7) (v := .int .i64 (k : Int)) (fun W' hSW => ?_) ?_
    ·first | (go_simp; done) | exact rfl | (go_simp; rfl) | (go_simp; omega)
    try simp only [pUt, pUn, sEt, sEz, sEs]
    refine tkn (i := 8) (v := .pointer (some ⟨g2, o + k * 5, none⟩)) (fun W' hSW => ?_) ?_
    ·first | (go_simp; done) | exact rfl | (go_simp; rfl) | (go_simp; omega)
    try simp only [pUt, pUn, sEt, sEz, sEs]
    refine tkn (i := 9) (v := .pointer (some ⟨g2, o + k * 5, none⟩)) (fun W' hSW => ?_) ?_
    ·first | (go_simp; done) | exact rfl | (go_simp; rfl) | (go_simp; omega)
    try simp only [pUt, pUn, sEt, sEz, sEs]
    refine tkn (i := 10) (v := .agg #[.int .i64 y.key.time, .int .i64 y.key.source, .int .i64 y.key.seq]) (fun W' hSW => ?_) ?_
    ·obtain ⟨x0, x1, x2, x3, x4⟩ := HY.out.later hSW
     first | (go_simp; done) | exact rfl | (go_simp; rfl) | (go_simp; omega)
    try simp only [pUt, pUn, sEt, sEz, sEs]
    refine take_call (i := 11) rfl (by kernel_rfl) (by kernel_rfl) (fun K hK => ?_)
    go_simp
    refine (HLs.out _).mono ?_
    rintro e wA ⟨rfl, hfA⟩
    have FA := Lib.hid (hHeld.trans hfA)
    clear hfA
    go_wp2_with fail
    refine hK.out _ _ FA.out (fun hHeld => ?_)
    clear hK K
    try simp only [pUt, pUn, sEt, sEz, sEs]
    refine tkn (i := 12) (v := .bool false) (fun W' hSW => ?_) ?_
    ·first | (go_simp; done) | exact rfl | (go_simp; rfl) | (go_simp; omega)
    try simp only [pUt, pUn, sEt, sEz, sEs]
    refine wpAnyH_done (by kernel_rfl) ?_ _
    have FE := Lib.hid (hfr.out.trans hHeld)
    clear hHeld
    go_wp2_with fail
    go_roundw
    case rel => exact ⟨k + 1, by omega, .inl (by omega), by go_num, hnext, FE⟩
    case measure => simp [Go.RowKit.intOf]; omega
   ·rw [show decide (cmpK x.key y.key < 0) = false from decide_eq_false hb] at HLs
    have hres := Lib.hid (show false = R by
     rw [← HR.out]
     exact (decide_eq_false (fun ha => hb (asc_adj.1 ha j x y Hx.out (by rw [← Hkj.out]; exact Hy.out)))).symm)
    clear hb
    go_wp2_with fail
    refine wp_region_held_drew (S := fun W' => Fr0 none' wr W') (by kernel_rfl) ((Fr0.refl none' wr).drew) (fun hHeld => ?_)
    refine tkn (i := 0) (v := .slice (some ⟨g2, o, none⟩) n cap) (fun W' hSW => ?_) ?_
    ·first | (go_simp; done) | exact rfl | (go_simp; rfl) | (go_simp; omega)
    try simp only [pUt, pUn, sEt, sEz, sEs]
    refine tkn (i := 1) (v := .int .i64 (k : Int)) (fun W' hSW => ?_) ?_
    ·first | (go_simp; done) | exact rfl | (go_simp; rfl) | (go_simp; omega)
    try simp only [pUt, pUn, sEt, sEz, sEs]
    refine tkn (i := 2) (v := .int .i64 (j : Int)) (fun W' hSW => ?_) ?_
    ·first | (go_simp; done) | exact rfl | (go_simp; rfl) | (go_simp; omega)
    try simp only [pUt, pUn, sEt, sEz, sEs]
    refine tkn (i := 3) (v := .pointer (some ⟨g2, o + j * 5, none⟩)) (fun W' hSW => ?_) ?_
    ·first | (go_simp; done) | exact rfl | (go_simp; rfl) | (go_simp; omega)
    try simp only [pUt, pUn, sEt, sEz, sEs]
    refine tkn (i := 4) (v := .pointer (some ⟨g2, o + j * 5, none⟩)) (fun W' hSW => ?_) ?_
    ·first | (go_simp; done) | exact rfl | (go_simp; rfl) | (go_simp; omega)
    try simp only [pUt, pUn, sEt, sEz, sEs]
    refine tkn (i := 5) (v := .agg #[.int .i64 x.key.time, .int .i64 x.key.source, .int .i64 x.key.seq]) (fun W' hSW => ?_) ?_
    ·obtain ⟨x0, x1, x2, x3, x4⟩ := HX.out.later hSW
     first | (go_simp; done) | exact rfl | (go_simp; rfl) | (go_simp; omega)
    try simp only [pUt, pUn, sEt, sEz, sEs]
    refine tkn (i := 6) (v := .slice (some ⟨g2, o, none⟩) n cap) (fun W' hSW => ?_) ?_
    ·first | (go_simp; done) | exact rfl | (go_simp; rfl) | (go_simp; omega)
    try simp only [pUt, pUn, sEt, sEz, sEs]
    refine tkn (i := 7) (v := .int .i64 (k : Int)) (fun W' hSW => ?_) ?_
    ·first | (go_simp; done) | exact rfl | (go_simp; rfl) | (go_simp; omega)
    try simp only [pUt, pUn, sEt, sEz, sEs]
    refine tkn (i := 8) (v := .pointer (some ⟨g2, o + k * 5, none⟩)) (fun W' hSW => ?_) ?_
    ·first | (go_simp; done) | exact rfl | (go_simp; rfl) | (go_simp; omega)
    try simp only [pUt, pUn, sEt, sEz, sEs]
    refine tkn (i := 9) (v := .pointer (some ⟨g2, o + k * 5, none⟩)) (fun W' hSW => ?_) ?_
    ·first | (go_simp; done) | exact rfl | (go_simp; rfl) | (go_simp; omega)
    try simp only [pUt, pUn, sEt, sEz, sEs]
    refine tkn (i := 10) (v := .agg #[.int .i64 y.key.time, .int .i64 y.key.source, .int .i64 y.key.seq]) (fun W' hSW => ?_) ?_
    ·obtain ⟨x0, x1, x2, x3, x4⟩ := HY.out.later hSW
     first | (go_simp; done) | exact rfl | (go_simp; rfl) | (go_simp; omega)
    try simp only [pUt, pUn, sEt, sEz, sEs]
    refine take_call (i := 11) rfl (by kernel_rfl) (by kernel_rfl) (fun K hK => ?_)
    go_simp
    refine (HLs.out _).mono ?_
    rintro e wA ⟨rfl, hfA⟩
    have FA := Lib.hid (hHeld.trans hfA)
    clear hfA
    go_wp2_with fail
    refine hK.out _ _ FA.out (fun hHeld => ?_)
    clear hK K
    try simp only [pUt, pUn, sEt, sEz, sEs]
    refine tkn (i := 12) (v := .bool true) (fun W' hSW => ?_) ?_
    ·first | (go_simp; done) | exact rfl | (go_simp; rfl) | (go_simp; omega)
    try simp only [pUt, pUn, sEt, sEz, sEs]
    refine wpAnyH_done (by kernel_rfl) ?_ _
    have FE := Lib.hid (hfr.out.trans hHeld)
    clear hHeld
    go_wp2_with fail
    go_ret
    exact ⟨ret_bool hres.out, FE.out⟩
  ·have hres := Lib.hid (show true = R by
    rw [← HR.out]
    exact (decide_eq_true (asc_adj.2 (fun j x y hx hy => hpre.out j x y (by have := (List.getElem?_eq_some_iff.1 hy).1; rw [Hl.out] at this; omega) hx hy))).symm)
   go_wp2_with fail
   go_ret
   exact ⟨ret_bool hres.out, hfr.out⟩
set_option maxRecDepth 100000 in
set_option maxHeartbeats 2000000 in
theorem rCount_any {w : World} {a : Option Addr} {n cap : Nat} {f t : Int} (L : List Ev) (h : EsIn w a L) (hl : L.length = n) (hn : n ≤ 10000) :
  Calls Try.prog 37 #[.slice a n cap, .int .i64 f, .int .i64 t] w fun e w' => e = .returned (.tuple #[.int .i64 (countC L f t).1, .int .i64 (countC L f t).2]) ∧ Fr0 none' w w' := by
 have HS := Lib.hid (rSorted_any (cap := cap) L h hl hn)
 have H := Lib.hid h
 have Hl := Lib.hid hl
 clear h hl
 by_cases ho : AscE L
 ·rw [show decide (AscE L) = true from decide_eq_true ho] at HS
  have hR : countC L f t = (((btwE f t L : Nat) : Int), 0) := by unfold countC; rw [if_pos ho]
  rw [hR]
  clear ho hR
  simp only
  obtain ⟨R, hR⟩ : ∃ R, btwE f t L = R := ⟨_, rfl⟩
  rw [hR]
  have HR := Lib.hid hR
  clear hR
  go_enter Try.func37, Try.ntmps37
  go_wp2_with fail
  refine HS.out.mono ?_
  rintro e w1 ⟨rfl, hf⟩
  have F1 := Lib.hid hf
  have H1 := Lib.hid (H.out.later hf)
  clear hf
  go_wp2_with fail
  go_loopw [8, 9] (fun q i wr => ∃ k : Nat, k ≤ n ∧ q = .int .i64 (btwE f t (L.take k) : Nat) ∧ i = .int .i64 k ∧ Hid (Fr0 none' w wr)) (fun _ i _ => n - (Go.RowKit.intOf i).toNat)
  case atStart => exact ⟨0, Nat.zero_le _, by simp [btwE], rfl, F1⟩
  case round =>
   obtain ⟨k, hk, rfl, rfl, hfr⟩ := hrel
   have hql := btwE_le f t (L.take k)
   rw [List.length_take] at hql
   have HSN : ∀ x, L[k]? = some x → btwE f t (L.take (k + 1)) = btwE f t (L.take k) + (if f ≤ x.key.time ∧ x.key.time < t then 1 else 0) := fun x hx => btwE_snoc hx
   obtain ⟨q, hq⟩ : ∃ q, btwE f t (L.take k) = q := ⟨_, rfl⟩
   simp only [hq] at hql HSN ⊢
   have Hq := Lib.hid hq
   clear hq
   by_cases hlt : k < n
   ·obtain ⟨x, hx⟩ : ∃ x, L[k]? = some x := ⟨_, List.getElem?_eq_getElem (by rw [Hl.out]; exact hlt)⟩
    obtain ⟨g, o, rfl, hxc⟩ := (H.out.later hfr.out) k x hx
    obtain ⟨x0, x1, x2, x3, x4⟩ := hxc
    have k1 : (0 : Int) ≤ (k : Int) := by omega
    have k2 : (k : Int) < (n : Int) := by omega
    have hst := HSN x hx
    have HFW := hfr
    clear HSN hx
    by_cases g1 : f ≤ x.key.time
    ·have d1 : decide (f ≤ x.key.time) = true := decide_eq_true g1
     have d1' : decide (x.key.time ≥ f) = true := decide_eq_true g1
     by_cases g2 : x.key.time < t
     ·have d2 : decide (x.key.time < t) = true := decide_eq_true g2
      rw [if_pos ⟨g1, g2⟩] at hst
      have Hst := Lib.hid hst
      clear hst g1 g2
      go_wp2_with fail
      go_roundw
      case rel => exact ⟨k + 1, by omega, by rw [Hst.out]; go_num, by go_num, HFW⟩
      case measure => simp [Go.RowKit.intOf]; omega
     ·have d2 : decide (x.key.time < t) = false := decide_eq_false g2
      rw [if_neg (fun h => g2 h.2), Nat.add_zero] at hst
      have Hst := Lib.hid hst
      clear hst g1 g2
      go_wp2_with fail
      go_roundw
      case rel => exact ⟨k + 1, by omega, by rw [Hst.out, Nat.add_zero], by go_num, HFW⟩
      case measure => simp [Go.RowKit.intOf]; omega
    ·have d1 : decide (f ≤ x.key.time) = false := decide_eq_false g1
     have d1' : decide (x.key.time ≥ f) = false := decide_eq_false g1
     rw [if_neg (fun h => g1 h.1), Nat.add_zero] at hst
     have Hst := Lib.hid hst
     clear hst g1
     go_wp2_with fail
     go_roundw
     case rel => exact ⟨k + 1, by omega, by rw [Hst.out, Nat.add_zero], by go_num, HFW⟩
     case measure => simp [Go.RowKit.intOf]; omega
   ·have hres : (q : Int) = (R : Int) := by
     rw [← HR.out, ← Hq.out, List.take_of_length_le (by rw [Hl.out]; omega)]
    have Hres := Lib.hid hres
    clear hres HSN
    go_wp2_with fail
    go_ret2
    exact ⟨by simp [Hres.out], hfr.out⟩
 ·rw [show decide (AscE L) = false from decide_eq_false ho] at HS
  have hR : countC L f t = (0, 110) := by unfold countC; rw [if_neg ho]
  rw [hR]
  clear ho hR
  go_enter Try.func37, Try.ntmps37
  go_wp2_with fail
  refine HS.out.mono ?_
  rintro e w1 ⟨rfl, hf⟩
  have F1 := Lib.hid hf
  clear hf
  go_wp2_with fail
  go_ret2
  exact ⟨rfl, F1.out⟩
/-- The times of the first k events, each once. -/
def cuE (L : List Ev) (k : Nat) : List Int := Lib.compactUpTo (timesE L).toArray k
theorem timesE_at {L : List Ev} {k : Nat} {x : Ev} (h : L[k]? = some x) : (timesE L).toArray[k]! = x.key.time := by
 obtain ⟨h1, h2⟩ := List.getElem?_eq_some_iff.1 h
 have h3 : (timesE L)[k]? = some x.key.time := by unfold timesE; rw [List.getElem?_map, h]; rfl
 simp [h3]
theorem cuE_first {L : List Ev} {y : Ev} (h : L[0]? = some y) : cuE L (0 + 1) = cuE L 0 ++ [y.key.time] := by
 unfold cuE
 rw [Lib.compactUpTo_succ, if_pos (by simp [Lib.keeps]), timesE_at h]
theorem cuE_on {L : List Ev} {k j : Nat} {x y : Ev} (hy : L[k]? = some y) (hx : L[j]? = some x) (hj : k - 1 = j) (hn : y.key.time ≠ x.key.time) : cuE L (k + 1) = cuE L k ++ [y.key.time] := by
 unfold cuE
 rw [Lib.compactUpTo_succ, if_pos (Lib.keeps_pos (by rw [hj, timesE_at hy, timesE_at hx]; exact hn)), timesE_at hy]
theorem cuE_off {L : List Ev} {k j : Nat} {x y : Ev} (hy : L[k]? = some y) (hx : L[j]? = some x) (hk : 0 < k) (hj : k - 1 = j) (hn : y.key.time = x.key.time) : cuE L (k + 1) = cuE L k := by
 unfold cuE
 rw [Lib.compactUpTo_succ, Lib.keeps_neg hk (by rw [hj, timesE_at hy, timesE_at hx]; exact hn)]
 simp
theorem cuE_all {L : List Ev} {n : Nat} (h : L.length = n) : cuE L n = timesC L := by
 unfold cuE timesC Lib.compact timesE
 rw [List.length_map, h]
theorem cuE_len (L : List Ev) (k : Nat) : (cuE L k).length ≤ k := by
 unfold cuE Lib.compactUpTo
 rw [List.length_map]
 exact Nat.le_trans (List.length_filter_le _ _) (by simp)
set_option maxRecDepth 100000 in
set_option maxHeartbeats 2000000 in
theorem rTimes_any {w : World} {a : Option Addr} {n cap : Nat} (L : List Ev) (h : EsIn w a L) (hl : L.length = n) (hn : n ≤ 10000) :
  Calls Try.prog 38 #[.slice a n cap] w fun e w' => ∃ v, e = .returned (.tuple #[v, .int .i64 (if AscE L then 0 else 110)]) ∧ w'.ownsRow w.heap.size 3 1 v (if AscE L then (timesC L).length else 0) ((if AscE L then timesC L else []).map (Value.int .i64)) ∧ Fr0 none' w w' := by
 obtain ⟨i0, hi, hz0, hz1, hz2⟩ := info_parts info_intC
 have HS := Lib.hid (rSorted_any (cap := cap) L h hl hn)
 have H := Lib.hid h
 have Hl := Lib.hid hl
 obtain ⟨N, hN⟩ : ∃ N, w.heap.size = N := ⟨_, rfl⟩
 have HN := Lib.hid hN
 rw [hN]
 clear h hl hN
 by_cases ho : AscE L
 ·rw [show decide (AscE L) = true from decide_eq_true ho] at HS
  simp only [if_pos ho]
  clear ho
  go_enter Try.func38, Try.ntmps38
  go_wp2_with fail
  refine HS.out.mono ?_
  rintro e w1 ⟨rfl, hf⟩
  have F1 := Lib.hid hf
  have H1 := Lib.hid (H.out.later hf)
  clear hf
  go_wp2_with fail
  go_loopw [4, 5] (fun out i wr => ∃ k : Nat, k ≤ n ∧ i = .int .i64 k ∧ Hid (wr.ownsRow N 3 1 out (cuE L k).length ((cuE L k).map (Value.int .i64))) ∧ Hid (Fr0 none' w wr)) (fun _ i _ => n - (Go.RowKit.intOf i).toNat)
  case atStart => exact ⟨0, Nat.zero_le _, rfl, World.ownsRow_nil _ _ _ _, F1⟩
  case round =>
   obtain ⟨k, hk, rfl, hown, hfr⟩ := hrel
   by_cases hlt : k < n
   ·obtain ⟨y, hy⟩ : ∃ x, L[k]? = some x := ⟨_, List.getElem?_eq_getElem (by rw [Hl.out]; exact hlt)⟩
    obtain ⟨g2, o, rfl, hyc⟩ := H.out k y hy
    have HY := Lib.hid (hyc.later hfr.out)
    have Hy := Lib.hid hy
    have k1 : (0 : Int) ≤ (k : Int) := by omega
    have k2 : (k : Int) < (n : Int) := by omega
    have hNr : N ≤ wr.heap.size := by rw [← HN.out]; exact hfr.out.size
    have hqk := cuE_len L k
    obtain ⟨q, hq⟩ : ∃ q, (cuE L k).length = q := ⟨_, rfl⟩
    have Hq := Lib.hid hq
    rw [hq] at hown hqk
    obtain ⟨va, vc, rfl⟩ : ∃ va vc, u4 = .slice va q vc := by
     rcases hown.out.2 with ⟨rfl, h0⟩ | ⟨g, cap, cur, rfl, _⟩
     ·exact ⟨none, 0, by rw [h0]⟩
     ·exact ⟨_, cap, rfl⟩
    clear hy hyc hq
    by_cases h0 : k = 0
    ·have hst := Lib.hid (show cuE L (k + 1) = cuE L k ++ [y.key.time] by have := Hy.out; subst h0; exact cuE_first this)
     have k6 : ((k : Int) == 0) = true := by rw [h0]; rfl
     clear h0
     go_wp2_with fail
     refine wp_region_held_drew (S := fun W' => Fr0 none' wr W') (by kernel_rfl) ((Fr0.refl none' wr).drew) (fun hHeld => ?_)
     refine tkn (i := 0) (v := .int .i64 (k : Int)) (fun W' hSW => ?_) ?_
     ·first | (go_simp; done) | exact rfl | (go_simp; rfl) | (go_simp; omega)
     try simp only [pUt, pUn, sEt, sEz, sEs]
     refine tkn (i := 1) (v := .bool true) (fun W' hSW => ?_) ?_
     ·first | (go_simp; done) | exact rfl | (go_simp; rfl) | (go_simp; omega)
     try simp only [pUt, pUn, sEt, sEz, sEs]
     refine tkn (i := 2) (v := .bool true) (fun W' hSW => ?_) ?_
     ·first | (go_simp; done) | exact rfl | (go_simp; rfl) | (go_simp; omega)
     try simp only [pUt, pUn, sEt, sEz, sEs]
     refine take_off (i := 3) rfl (by kernel_rfl) (by kernel_rfl) (by kernel_rfl) (fun _ _ _ h => h) (by kernel_rfl) (by assumption) ?_
     try simp only [pUt, pUn, sEt, sEz, sEs]
     refine take_off (i := 4) rfl (by kernel_rfl) (by kernel_rfl) (by kernel_rfl) (fun _ _ _ h => h) (by kernel_rfl) (by assumption) ?_
     try simp only [pUt, pUn, sEt, sEz, sEs]
     refine take_off (i := 5) rfl (by kernel_rfl) (by kernel_rfl) (by kernel_rfl) (fun _ _ _ h => h) (by kernel_rfl) (by assumption) ?_
     try simp only [pUt, pUn, sEt, sEz, sEs]
     refine take_off (i := 6) rfl (by kernel_rfl) (by kernel_rfl) (by kernel_rfl) (fun _ _ _ h => h) (by kernel_rfl) (by assumption) ?_
     try simp only [pUt, pUn, sEt, sEz, sEs]
     refine take_off (i := 7) rfl (by kernel_rfl) (by kernel_rfl) (by kernel_rfl) (fun _ _ _ h => h) (by kernel_rfl) (by assumption) ?_
     try simp only [pUt, pUn, sEt, sEz, sEs]
     refine take_off (i := 8) rfl (by kernel_rfl) (by kernel_rfl) (by kernel_rfl) (fun _ _ _ h => h) (by kernel_rfl) (by assumption) ?_
     try simp only [pUt, pUn, sEt, sEz, sEs]
     refine take_off (i := 9) rfl (by kernel_rfl) (by kernel_rfl) (by kernel_rfl) (fun _ _ _ h => h) (by kernel_rfl) (by assumption) ?_
     try simp only [pUt, pUn, sEt, sEz, sEs]
     refine take_off (i := 10) rfl (by kernel_rfl) (by kernel_rfl) (by kernel_rfl) (fun _ _ _ h => h) (by kernel_rfl) (by assumption) ?_
     try simp only [pUt, pUn, sEt, sEz, sEs]
     refine take_off (i := 11) rfl (by kernel_rfl) (by kernel_rfl) (by kernel_rfl) (fun _ _ _ h => h) (by kernel_rfl) (by assumption) ?_
     try simp only [pUt, pUn, sEt, sEz, sEs]
     refine take_off (i := 12) rfl (by kernel_rfl) (by kernel_rfl) (by kernel_rfl) (fun _ _ _ h => h) (by kernel_rfl) (by assumption) ?_
     try simp only [pUt, pUn, sEt, sEz, sEs]
     refine take_off (i := 13) rfl (by kernel_rfl) (by kernel_rfl) (by kernel_rfl) (fun _ _ _ h => h) (by kernel_rfl) (by assumption) ?_
     try simp only [pUt, pUn, sEt, sEz, sEs]
     refine take_off (i := 14) rfl (by kernel_rfl) (by kernel_rfl) (by kernel_rfl) (fun _ _ _ h => h) (by kernel_rfl) (by assumption) ?_
     try simp only [pUt, pUn, sEt, sEz, sEs]
     refine take_off (i := 15) rfl (by kernel_rfl) (by kernel_rfl) (by kernel_rfl) (fun _ _ _ h => h) (by kernel_rfl) (by assumption) ?_
     try simp only [pUt, pUn, sEt, sEz, sEs]
     refine take_off (i := 16) rfl (by kernel_rfl) (by kernel_rfl) (by kernel_rfl) (fun _ _ _ h => h) (by kernel_rfl) (by assumption) ?_
     try simp only [pUt, pUn, sEt, sEz, sEs]
     refine tkn (i := 17) (v := .bool true) (fun W' hSW => ?_) ?_
     ·first | (go_simp; done) | exact rfl | (go_simp; rfl) | (go_simp; omega)
     try simp only [pUt, pUn, sEt, sEz, sEs]
     refine wpAnyH_done (by kernel_rfl) ?_ _
     have FE := Lib.hid (hfr.out.trans hHeld)
     have HY2 := HY.out.later hHeld
     obtain ⟨x0, x1, x2, x3, x4⟩ := HY2
     have HO := Lib.hid (ownsRow_fr0 hown.out hHeld (fun _ _ h => h))
     clear hHeld hown hfr
     generalize wr.drew = WD at FE HO x0 x1 x2 x3 x4 ⊢
     have hNW : N ≤ WD.heap.size := by rw [← HN.out]; exact FE.out.size
     have hsrc := Src.newRow (P := Try.prog) (size := 1) (tx := 29) (ty := 3) WD Try.underlying29 1 1 [.int .i64 y.key.time] rfl (by simp [Value.oneCell'])
     have Hown2 := Lib.hid (HO.out.alloc (.cells [Value.int .i64 y.key.time].toArray 3))
     have Fr2 := Lib.hid (FE.out.alloc (.cells [Value.int .i64 y.key.time].toArray 3))
     have Hsrc := Lib.hid hsrc
     clear hsrc
     go_wp2_with (at_builtin; refine wpList_append_k rfl _ _ 29 29 rfl N 3 i0 (.int .i64 0) 1 8 Try.underlying29 hi hz0 hz1 hz2 rfl (by decide) _ q _ rfl Hown2.out (.slice (some ⟨WD.heap.size, 0, none⟩) 1 1) 1 _ rfl Hsrc.out (by unfold maxLen; omega) (by omega) (by simp; omega) ?_; intro v' w2 hown' hgrow hdr hob)
     have Hfin := Lib.hid (Fr2.out.grown hgrow (fun j hj hl => by
      have h1 := (Hown2.out.lt j hj).1
      rw [HN.out] at hl; omega))
     have Hown' := Lib.hid hown'
     obtain ⟨g', cap', rfl⟩ := ownsRow_k_succ hown'
     clear hgrow hdr hob hown'
     go_wp2
     go_roundw
     case rel => exact ⟨k + 1, by omega, by go_num, by rw [hst.out, List.map_append, List.length_append]; exact Lib.hid (by rw [Hq.out]; exact Hown'.out), Hfin⟩
     case measure => simp [Go.RowKit.intOf]; omega
    ·obtain ⟨x, hx⟩ : ∃ y, L[k - 1]? = some y := ⟨_, List.getElem?_eq_getElem (by rw [Hl.out]; omega)⟩
     obtain ⟨g3, o3, e3, hxc⟩ := H.out (k - 1) x hx
     injection e3 with e3
     injection e3 with e3 e4
     subst e3 e4
     have HX := Lib.hid (hxc.later hfr.out)
     have Hx := Lib.hid hx
     obtain ⟨j, hj⟩ : ∃ j, k - 1 = j := ⟨_, rfl⟩
     rw [hj] at HX Hx
     have Hj := Lib.hid hj
     have hj1 : (k : Int) - 1 = (j : Int) := by omega
     have k3 : (0 : Int) ≤ (j : Int) := by omega
     have k4 : (j : Int) < (n : Int) := by omega
     have k5 : IntKind.i64.wrap ((k : Int) - 1) = (j : Int) := by rw [hj1]; exact IntWalk.i64_in _ (by omega)
     have k6 : ((k : Int) == 0) = false := beq_eq_false_iff_ne.2 (by omega)
     clear hx hxc hj hj1
     by_cases hn : y.key.time = x.key.time
     ·have hst := Lib.hid (cuE_off Hy.out Hx.out (by omega) Hj.out hn)
      have d1 : (y.key.time == x.key.time) = true := by rw [hn]; exact beq_self_eq_true _
      have d2 : (y.key.time != x.key.time) = false := by rw [hn]; simp
      clear hn
      go_wp2_with fail
      refine wp_region_held_drew (S := fun W' => Fr0 none' wr W') (by kernel_rfl) ((Fr0.refl none' wr).drew) (fun hHeld => ?_)
      refine tkn (i := 0) (v := .int .i64 (k : Int)) (fun W' hSW => ?_) ?_
      ·first | (go_simp; done) | exact rfl | (go_simp; rfl) | (go_simp; omega)
      try simp only [pUt, pUn, sEt, sEz, sEs]
      refine tkn (i := 1) (v := .bool false) (fun W' hSW => ?_) ?_
      ·first | (go_simp; done) | exact rfl | (go_simp; rfl) | (go_simp; omega)
      try simp only [pUt, pUn, sEt, sEz, sEs]
      refine tkn (i := 2) (v := .bool false) (fun W' hSW => ?_) ?_
      ·first | (go_simp; done) | exact rfl | (go_simp; rfl) | (go_simp; omega)
      try simp only [pUt, pUn, sEt, sEz, sEs]
      refine tkn (i := 3) (v := .slice (some ⟨g2, o, none⟩) n cap) (fun W' hSW => ?_) ?_
      ·first | (go_simp; done) | exact rfl | (go_simp; rfl) | (go_simp; omega)
      try simp only [pUt, pUn, sEt, sEz, sEs]
      refine tkn (i := 4) (v := .int .i64 (k : Int)) (fun W' hSW => ?_) ?_
      ·first | (go_simp; done) | exact rfl | (go_simp; rfl) | (go_simp; omega)
      try simp only [pUt, pUn, sEt, sEz, sEs]
      refine tkn (i := 5) (v := .pointer (some ⟨g2, o + k * 5, none⟩)) (fun W' hSW => ?_) ?_
      ·first | (go_simp; done) | exact rfl | (go_simp; rfl) | (go_simp; omega)
      try simp only [pUt, pUn, sEt, sEz, sEs]
      refine tkn (i := 6) (v := .pointer (some ⟨g2, o + k * 5, none⟩)) (fun W' hSW => ?_) ?_
      ·first | (go_simp; done) | exact rfl | (go_simp; rfl) | (go_simp; omega)
      try simp only [pUt, pUn, sEt, sEz, sEs]
      refine tkn (i := 7) (v := .pointer (some ⟨g2, o + k * 5, none⟩)) (fun W' hSW => ?_) ?_
      ·first | (go_simp; done) | exact rfl | (go_simp; rfl) | (go_simp; omega)
      try simp only [pUt, pUn, sEt, sEz, sEs]
      refine tkn (i := 8) (v := .int .i64 y.key.time) (fun W' hSW => ?_) ?_
      ·obtain ⟨x0, x1, x2, x3, x4⟩ := HY.out.later hSW
       first | (go_simp; done) | exact rfl | (go_simp; rfl) | (go_simp; omega)
      try simp only [pUt, pUn, sEt, sEz, sEs]
      refine tkn (i := 9) (v := .slice (some ⟨g2, o, none⟩) n cap) (fun W' hSW => ?_) ?_
      ·first | (go_simp; done) | exact rfl | (go_simp; rfl) | (go_simp; omega)
      try simp only [pUt, pUn, sEt, sEz, sEs]
      refine tkn (i := 10) (v := .int .i64 (k : Int)) (fun W' hSW => ?_) ?_
      ·first | (go_simp; done) | exact rfl | (go_simp; rfl) | (go_simp; omega)
      try simp only [pUt, pUn, sEt, sEz, sEs]
      refine tkn (i := 11) (v := .int .i64 (j : Int)) (fun W' hSW => ?_) ?_
      ·first | (go_simp; done) | exact rfl | (go_simp; rfl) | (go_simp; omega)
      try simp only [pUt, pUn, sEt, sEz, sEs]
      refine tkn (i := 12) (v := .pointer (some ⟨g2, o + j * 5, none⟩)) (fun W' hSW => ?_) ?_
      ·first | (go_simp; done) | exact rfl | (go_simp; rfl) | (go_simp; omega)
      try simp only [pUt, pUn, sEt, sEz, sEs]
      refine tkn (i := 13) (v := .pointer (some ⟨g2, o + j * 5, none⟩)) (fun W' hSW => ?_) ?_
      ·first | (go_simp; done) | exact rfl | (go_simp; rfl) | (go_simp; omega)
      try simp only [pUt, pUn, sEt, sEz, sEs]
      refine tkn (i := 14) (v := .pointer (some ⟨g2, o + j * 5, none⟩)) (fun W' hSW => ?_) ?_
      ·first | (go_simp; done) | exact rfl | (go_simp; rfl) | (go_simp; omega)
      try simp only [pUt, pUn, sEt, sEz, sEs]
      refine tkn (i := 15) (v := .int .i64 x.key.time) (fun W' hSW => ?_) ?_
      ·obtain ⟨x0, x1, x2, x3, x4⟩ := HX.out.later hSW
       first | (go_simp; done) | exact rfl | (go_simp; rfl) | (go_simp; omega)
      try simp only [pUt, pUn, sEt, sEz, sEs]
      refine tkn (i := 16) (v := .bool false) (fun W' hSW => ?_) ?_
      ·first | (go_simp; done) | exact rfl | (go_simp; rfl) | (go_simp; omega)
      try simp only [pUt, pUn, sEt, sEz, sEs]
      refine tkn (i := 17) (v := .bool false) (fun W' hSW => ?_) ?_
      ·first | (go_simp; done) | exact rfl | (go_simp; rfl) | (go_simp; omega)
      try simp only [pUt, pUn, sEt, sEz, sEs]
      refine wpAnyH_done (by kernel_rfl) ?_ _
      have FE := Lib.hid (hfr.out.trans hHeld)
      have HO := Lib.hid (ownsRow_fr0 hown.out hHeld (fun _ _ h => h))
      clear hHeld hown hfr
      go_wp2_with fail
      go_roundw
      case rel => exact ⟨k + 1, by omega, by go_num, by rw [hst.out, Hq.out]; exact HO, FE⟩
      case measure => simp [Go.RowKit.intOf]; omega
     ·have hst := Lib.hid (cuE_on Hy.out Hx.out Hj.out hn)
      have d1 : (y.key.time == x.key.time) = false := beq_eq_false_iff_ne.2 hn
      have d2 : (y.key.time != x.key.time) = true := bne_iff_ne.2 hn
      clear hn
      go_wp2_with fail
      refine wp_region_held_drew (S := fun W' => Fr0 none' wr W') (by kernel_rfl) ((Fr0.refl none' wr).drew) (fun hHeld => ?_)
      refine tkn (i := 0) (v := .int .i64 (k : Int)) (fun W' hSW => ?_) ?_
      ·first | (go_simp; done) | exact rfl | (go_simp; rfl) | (go_simp; omega)
      try simp only [pUt, pUn, sEt, sEz, sEs]
      refine tkn (i := 1) (v := .bool false) (fun W' hSW => ?_) ?_
      ·first | (go_simp; done) | exact rfl | (go_simp; rfl) | (go_simp; omega)
      try simp only [pUt, pUn, sEt, sEz, sEs]
      refine tkn (i := 2) (v := .bool false) (fun W' hSW => ?_) ?_
      ·first | (go_simp; done) | exact rfl | (go_simp; rfl) | (go_simp; omega)
      try simp only [pUt, pUn, sEt, sEz, sEs]
      refine tkn (i := 3) (v := .slice (some ⟨g2, o, none⟩) n cap) (fun W' hSW => ?_) ?_
      ·first | (go_simp; done) | exact rfl | (go_simp; rfl) | (go_simp; omega)
      try simp only [pUt, pUn, sEt, sEz, sEs]
      refine tkn (i := 4) (v := .int .i64 (k : Int)) (fun W' hSW => ?_) ?_
      ·first | (go_simp; done) | exact rfl | (go_simp; rfl) | (go_simp; omega)
      try simp only [pUt, pUn, sEt, sEz, sEs]
      refine tkn (i := 5) (v := .pointer (some ⟨g2, o + k * 5, none⟩)) (fun W' hSW => ?_) ?_
      ·first | (go_simp; done) | exact rfl | (go_simp; rfl) | (go_simp; omega)
      try simp only [pUt, pUn, sEt, sEz, sEs]
      refine tkn (i := 6) (v := .pointer (some ⟨g2, o + k * 5, none⟩)) (fun W' hSW => ?_) ?_
      ·first | (go_simp; done) | exact rfl | (go_simp; rfl) | (go_simp; omega)
      try simp only [pUt, pUn, sEt, sEz, sEs]
      refine tkn (i := 7) (v := .pointer (some ⟨g2, o + k * 5, none⟩)) (fun W' hSW => ?_) ?_
      ·first | (go_simp; done) | exact rfl | (go_simp; rfl) | (go_simp; omega)
      try simp only [pUt, pUn, sEt, sEz, sEs]
      refine tkn (i := 8) (v := .int .i64 y.key.time) (fun W' hSW => ?_) ?_
      ·obtain ⟨x0, x1, x2, x3, x4⟩ := HY.out.later hSW
       first | (go_simp; done) | exact rfl | (go_simp; rfl) | (go_simp; omega)
      try simp only [pUt, pUn, sEt, sEz, sEs]
      refine tkn (i := 9) (v := .slice (some ⟨g2, o, none⟩) n cap) (fun W' hSW => ?_) ?_
      ·first | (go_simp; done) | exact rfl | (go_simp; rfl) | (go_simp; omega)
      try simp only [pUt, pUn, sEt, sEz, sEs]
      refine tkn (i := 10) (v := .int .i64 (k : Int)) (fun W' hSW => ?_) ?_
      ·first | (go_simp; done) | exact rfl | (go_simp; rfl) | (go_simp; omega)
      try simp only [pUt, pUn, sEt, sEz, sEs]
      refine tkn (i := 11) (v := .int .i64 (j : Int)) (fun W' hSW => ?_) ?_
      ·first | (go_simp; done) | exact rfl | (go_simp; rfl) | (go_simp; omega)
      try simp only [pUt, pUn, sEt, sEz, sEs]
      refine tkn (i := 12) (v := .pointer (some ⟨g2, o + j * 5, none⟩)) (fun W' hSW => ?_) ?_
      ·first | (go_simp; done) | exact rfl | (go_simp; rfl) | (go_simp; omega)
      try simp only [pUt, pUn, sEt, sEz, sEs]
      refine tkn (i := 13) (v := .pointer (some ⟨g2, o + j * 5, none⟩)) (fun W' hSW => ?_) ?_
      ·first | (go_simp; done) | exact rfl | (go_simp; rfl) | (go_simp; omega)
      try simp only [pUt, pUn, sEt, sEz, sEs]
      refine tkn (i := 14) (v := .pointer (some ⟨g2, o + j * 5, none⟩)) (fun W' hSW => ?_) ?_
      ·first | (go_simp; done) | exact rfl | (go_simp; rfl) | (go_simp; omega)
      try simp only [pUt, pUn, sEt, sEz, sEs]
      refine tkn (i := 15) (v := .int .i64 x.key.time) (fun W' hSW => ?_) ?_
      ·obtain ⟨x0, x1, x2, x3, x4⟩ := HX.out.later hSW
       first | (go_simp; done) | exact rfl | (go_simp; rfl) | (go_simp; omega)
      try simp only [pUt, pUn, sEt, sEz, sEs]
      refine tkn (i := 16) (v := .bool true) (fun W' hSW => ?_) ?_
      ·first | (go_simp; done) | exact rfl | (go_simp; rfl) | (go_simp; omega)
      try simp only [pUt, pUn, sEt, sEz, sEs]
      refine tkn (i := 17) (v := .bool true) (fun W' hSW => ?_) ?_
      ·first | (go_simp; done) | exact rfl | (go_simp; rfl) | (go_simp; omega)
      try simp only [pUt, pUn, sEt, sEz, sEs]
      refine wpAnyH_done (by kernel_rfl) ?_ _
      have FE := Lib.hid (hfr.out.trans hHeld)
      have HY2 := HY.out.later hHeld
      obtain ⟨x0, x1, x2, x3, x4⟩ := HY2
      have HO := Lib.hid (ownsRow_fr0 hown.out hHeld (fun _ _ h => h))
      clear hHeld hown hfr
      generalize wr.drew = WD at FE HO x0 x1 x2 x3 x4 ⊢
      have hNW : N ≤ WD.heap.size := by rw [← HN.out]; exact FE.out.size
      have hsrc := Src.newRow (P := Try.prog) (size := 1) (tx := 29) (ty := 3) WD Try.underlying29 1 1 [.int .i64 y.key.time] rfl (by simp [Value.oneCell'])
      have Hown2 := Lib.hid (HO.out.alloc (.cells [Value.int .i64 y.key.time].toArray 3))
      have Fr2 := Lib.hid (FE.out.alloc (.cells [Value.int .i64 y.key.time].toArray 3))
      have Hsrc := Lib.hid hsrc
      clear hsrc
      go_wp2_with (at_builtin; refine wpList_append_k rfl _ _ 29 29 rfl N 3 i0 (.int .i64 0) 1 8 Try.underlying29 hi hz0 hz1 hz2 rfl (by decide) _ q _ rfl Hown2.out (.slice (some ⟨WD.heap.size, 0, none⟩) 1 1) 1 _ rfl Hsrc.out (by unfold maxLen; omega) (by omega) (by simp; omega) ?_; intro v' w2 hown' hgrow hdr hob)
      have Hfin := Lib.hid (Fr2.out.grown hgrow (fun j hj hl => by
       have h1 := (Hown2.out.lt j hj).1
       rw [HN.out] at hl; omega))
      have Hown' := Lib.hid hown'
      obtain ⟨g', cap', rfl⟩ := ownsRow_k_succ hown'
      clear hgrow hdr hob hown'
      go_wp2
      go_roundw
      case rel => exact ⟨k + 1, by omega, by go_num, by rw [hst.out, List.map_append, List.length_append]; exact Lib.hid (by rw [Hq.out]; exact Hown'.out), Hfin⟩
      case measure => simp [Go.RowKit.intOf]; omega
   ·have hkm : k = n := by omega
    subst hkm
    have hfin : wr.ownsRow N 3 1 u4 (timesC L).length ((timesC L).map (Value.int .i64)) := by
     have h1 := hown.out
     rw [cuE_all Hl.out] at h1
     exact h1
    have Hf := Lib.hid hfin
    clear hown hfin
    go_wp2_with fail
    go_ret2
    exact ⟨_, rfl, Hf.out, hfr.out⟩
 ·rw [show decide (AscE L) = false from decide_eq_false ho] at HS
  simp only [if_neg ho]
  clear ho
  go_enter Try.func38, Try.ntmps38
  go_wp2_with fail
  refine HS.out.mono ?_
  rintro e w1 ⟨rfl, hf⟩
  have F1 := Lib.hid hf
  clear hf
  go_wp2_with fail
  go_ret2
  exact ⟨_, rfl, World.ownsRow_nil _ _ _ _, F1.out⟩
end Go.Proofs.Ytmbjfmlicffclaa

/-
  slices.Equal at ints.
-/
namespace Go.Proofs.Ytmbjfmlicffclaa
open Go Go.RowKit
attribute [local go_sem ↓] Go.wp_at_zero Go.wp_at_succ

/-- Ints in memory. -/
def IsIn (w : World) (a : Option Addr) (L : List Int) : Prop := ∀ i x, L[i]? = some x → ∃ g o, a = some ⟨g, o, none⟩ ∧ w.cell? ⟨g, o + i, none⟩ = some (.int .i64 x)
theorem IsIn.fr0 {S : Nat → Prop} {w w' : World} {a : Option Addr} {L : List Int} (h : IsIn w a L) (hf : Fr0 S w w') (hS : ∀ g o s, a = some ⟨g, o, s⟩ → ¬ S g) : IsIn w' a L := fun i x hx => by
 obtain ⟨g, o, rfl, hc⟩ := h i x hx
 exact ⟨g, o, rfl, (hf.cell (p := ⟨g, o + i, none⟩) (World.block_lt_of_cell? _ _ hc) (hS g o none rfl)).trans hc⟩
theorem IsIn.later {w w' : World} {a : Option Addr} {L : List Int} (h : IsIn w a L) (hf : Fr0 none' w w') : IsIn w' a L := h.fr0 hf (fun _ _ _ _ h => h)
theorem IsIn.of_own {w : World} {base : Nat} {v : Value} {n : Nat} {L : List Int} (h : w.ownsRow base 3 1 v n (L.map (Value.int .i64))) : ∃ a cap, v = .slice a n cap ∧ L.length = n ∧ IsIn w a L := by
 have hl : L.length = n := by have := h.1; rw [List.length_map] at this; omega
 rcases h.2 with ⟨rfl, h0⟩ | ⟨g, cap, cur, rfl, hb, hg, hn', hcm, hs, ht⟩
 ·have : L = [] := List.eq_nil_of_length_eq_zero (by omega)
  subst this
  exact ⟨none, 0, by rw [h0], hl, fun i x h => by simp at h⟩
 ·refine ⟨_, cap, rfl, hl, fun i x hx => ⟨g, 0, rfl, ?_⟩⟩
  have hj : (L.map (Value.int .i64))[i]? = some (.int .i64 x) := by rw [List.getElem?_map, hx]; rfl
  rw [Nat.zero_add, cells_in hg, ← Array.getElem?_toList]
  rw [← ht, List.getElem?_take] at hj
  split at hj
  ·exact hj
  ·cases hj
set_option maxRecDepth 100000 in
set_option maxHeartbeats 2000000 in
theorem sameIs_any (a a' : Option Addr) (n n' cap cap' : Nat) (xs ys : List Int) (w : World) (hn : xs.length = n) (hn' : ys.length = n') (hm : n ≤ 1000000) (hm' : n' ≤ 1000000)
  (hc : IsIn w a xs) (hc' : IsIn w a' ys) :
  Calls Try.prog 30 #[.slice a n cap, .slice a' n' cap'] w fun e w' => e = .returned (.bool (decide (xs = ys))) ∧ Fr0 none' w w' := by
 obtain ⟨R, hR⟩ : ∃ R, decide (xs = ys) = R := ⟨_, rfl⟩
 rw [hR]
 have HR := Lib.hid hR
 have Hn := Lib.hid hn
 have Hn' := Lib.hid hn'
 have Hc := Lib.hid hc
 have Hc' := Lib.hid hc'
 clear hR hn hn' hc hc'
 by_cases hnn : n = n'
 ·subst hnn
  have d0 : ((n : Int) != (n : Int)) = false := by simp
  go_enter Try.func30, Try.ntmps30
  go_wp2
  clear d0
  go_loopw [13] (fun i wr => ∃ k : Nat, k ≤ n ∧ i = .int .i64 k ∧ Hid (xs.take k = ys.take k) ∧ Hid (Fr0 none' w wr)) (fun i _ => n - (Go.RowKit.intOf i).toNat)
  case atStart => exact ⟨0, Nat.zero_le _, rfl, rfl, Fr0.refl _ _⟩
  case round =>
   obtain ⟨k, hk, rfl, hpre, hb⟩ := hrel
   by_cases hlt : k < n
   ·have h1 : k < xs.length := by rw [Hn.out]; exact hlt
    have h2 : k < ys.length := by rw [Hn'.out]; exact hlt
    obtain ⟨x, hx⟩ : ∃ x, xs[k]? = some x := ⟨_, List.getElem?_eq_getElem h1⟩
    obtain ⟨y, hy⟩ : ∃ y, ys[k]? = some y := ⟨_, List.getElem?_eq_getElem h2⟩
    obtain ⟨g, o, rfl, hcx⟩ := Hc.out k x hx
    obtain ⟨g', o', rfl, hcy⟩ := Hc'.out k y hy
    have x0 := hb.out.later hcx
    have y0 := hb.out.later hcy
    have hx' := Lib.hid hx
    have hy' := Lib.hid hy
    have FW := hb
    clear hx hy h1 h2 hcx hcy
    have c1 : (0 : Int) ≤ (k : Int) := by omega
    have c2 : (k : Int) < (n : Int) := by omega
    by_cases hxy : x = y
    ·subst hxy
     have d1 : (x == x) = true := beq_self_eq_true x
     have d2 : (x != x) = false := by simp
     go_wp2
     go_quiet (fail)

     go_wp2
     refine ⟨⟨k + 1, by omega, by go_num, by unfold Hid; rw [List.take_add_one, List.take_add_one, hpre.out, hx'.out, hy'.out], by first | exact FW | exact ⟨FW.out.os, FW.out.tape, FW.out.output, FW.out.size, FW.out.block⟩⟩, ?_⟩
     simp [Go.RowKit.intOf]; omega
    ·have d1 : (x == y) = false := beq_eq_false_iff_ne.2 hxy
     have d2 : (x != y) = true := bne_iff_ne.2 hxy
     have hres : Hid (false = R) := by
      unfold Hid; rw [← HR.out]
      refine (decide_eq_false (fun h => hxy ?_)).symm
      have := hx'.out; rw [h, hy'.out] at this; exact (Option.some.inj this).symm
     clear hxy
     go_wp2
     go_quiet (fail)

     go_wp2
     go_ret
     exact ⟨ret_bool hres.out, by first | exact FW.out | exact ⟨FW.out.os, FW.out.tape, FW.out.output, FW.out.size, FW.out.block⟩⟩
   ·have hres : Hid (true = R) := by
     unfold Hid; rw [← HR.out]
     refine (decide_eq_true ?_).symm
     have := hpre.out
     rwa [List.take_of_length_le (by rw [Hn.out]; omega), List.take_of_length_le (by rw [Hn'.out]; omega)] at this
    go_wp2
    go_ret
    exact ⟨ret_bool hres.out, hb⟩
 ·have hres : Hid (false = R) := by
   unfold Hid; rw [← HR.out]
   refine (decide_eq_false (fun h => hnn ?_)).symm
   rw [← Hn.out, ← Hn'.out, h]
  have d0 : ((n : Int) != (n' : Int)) = true := by simp; omega
  clear hnn
  go_enter Try.func30, Try.ntmps30
  go_wp2
  go_ret
  exact ⟨ret_bool hres.out, Fr0.refl _ _⟩
end Go.Proofs.Ytmbjfmlicffclaa

/-
  The example of the chapter calendar.
-/
namespace Go.Proofs.Ytmbjfmlicffclaa
open Go Go.RowKit
attribute [local go_sem ↓] Go.wp_at_zero Go.wp_at_succ
attribute [local go_sem] Oper.semAt_some wide_fn wide_depth wide_fnR wide_depthR

set_option maxRecDepth 100000 in
set_option maxHeartbeats 1000000 in
theorem cat_any (a b c : Int) (w : World) : Calls Try.prog 28 #[.int .i64 a, .int .i64 b, .int .i64 c] w fun e w' => e = .returned (evV ⟨⟨a, b, c⟩, 1, 0⟩) ∧ Fr0 none' w w' := by
 unfold evV
 go_enter Try.func28, Try.ntmps28
 go_wp2_with fail
 obtain ⟨V, hV⟩ : ∃ V, (w.alloc (.cells #[.int .i64 a, .int .i64 b, .int .i64 c, .int .i64 1, .int .i64 0] 47)) = V := ⟨_, rfl⟩
 have hf : Fr0 none' w V := by rw [← hV]; exact (Fr0.refl _ _).alloc _
 have hb : V.heap[w.heap.size]? = some (.cells #[.int .i64 a, .int .i64 b, .int .i64 c, .int .i64 1, .int .i64 0] 47 (0, 0)) := by
  rw [← hV]
  exact World.alloc_heap_new w _
 rw [hV]
 have y0 := cells_in hb 0
 have y1 := cells_in hb 1
 have y2 := cells_in hb 2
 have y3 := cells_in hb 3
 have y4 := cells_in hb 4
 simp at y0 y1 y2 y3 y4
 exact bodyPost_ret (v := .agg #[.int .i64 a, .int .i64 b, .int .i64 c, .int .i64 1, .int .i64 0]) (by simp [results, Try.results28, go_sem, y0, y1, y2, y3, y4]) rfl ⟨rfl, hf⟩
theorem own_cap {w : World} {base : Nat} {e : TypeId} {size : Nat} {v : Value} {n : Nat} {xs : List Value} (h : w.ownsRow base e size v n xs) {a : Option Addr} {m c : Nat} (hv : v = .slice a m c) : n ≤ c := by
 rcases h.2 with ⟨rfl, h0⟩ | ⟨g, cap, cur, rfl, _, _, hn, _⟩
 ·injection hv with h1 h2 h3; omega
 ·injection hv with h1 h2 h3; omega
/-- Do at what it is known to do. -/
theorem Do_told {w : World} {a : Option Addr} {n cap : Nat} {c : Int} {L E : List Ev} {x : Ca} {T : Tl} {i f : Int} (hp : playC L c [x] = (E, [T], i, f)) (h : EsIn w a L) (hl : L.length = n) (hn : n ≤ 10000) (hcap : n ≤ cap) (hk : 0 ≤ x.kind ∧ x.kind < 256) :
  Calls Try.prog 29 #[.slice a n cap, .int .i64 c, actCV x] w fun e w' => ∃ va vc ya yc, e = .returned (.tuple #[.slice va E.length vc, .agg #[.int .i64 T.err, .slice ya T.evs.length yc], .int .i64 f]) ∧ E.length ≤ vc ∧ EsIn w' va E ∧ EsIn w' ya T.evs ∧ Fr0 none' w w' := by
 refine (Do_any (c := c) L x h hl hn hcap hk).mono ?_
 rintro e w' ⟨v, y, rfl, hv, hy, hyr, _, hf⟩
 unfold doT at hy
 rw [hp] at hv hy ⊢
 simp only [List.headD_cons] at hy
 subst hy
 obtain ⟨va, vc, rfl, _, h1⟩ := EsIn.of_own hv
 obtain ⟨ya, yc, hye, _, h2⟩ := EsIn.of_own hyr
 refine ⟨va, vc, ya, yc, ?_, own_cap hv rfl, h1, h2, hf⟩
 unfold Td.v at hye
 unfold Td.val Td.tl
 rw [hye]
/-- Play at what it is known to do. -/
theorem Play_told {w : World} {a aa : Option Addr} {n cap m ca : Nat} {c : Int} {L E : List Ev} {A : List Ca} {T : List Tl} {i f : Int} (hp : playC L c A = (E, T, i, f)) (h : EsIn w a L) (hl : L.length = n) (hn : n ≤ 10000) (hcap : n ≤ cap) (hA : CasIn w aa A) (hAl : A.length = m) (hm : m ≤ 100000) (hk : ∀ x ∈ A, 0 ≤ x.kind ∧ x.kind < 256) :
  Calls Try.prog 17 #[.slice a n cap, .int .i64 c, .slice aa m ca] w fun e w' => ∃ va vc ua uc ys, e = .returned (.tuple #[.slice va E.length vc, .slice ua T.length uc, .int .i64 i, .int .i64 f]) ∧ E.length ≤ vc ∧ EsIn w' va E ∧ TdsIn w' ua ys ∧ ys.map Td.tl = T ∧ (∀ y ∈ ys, EsIn w' y.sa y.evs ∧ y.sn = y.evs.length) ∧ Fr0 none' w w' := by
 refine (Play_any (c := c) L A h hl hn hcap hA hAl hm hk).mono ?_
 rintro e w' ⟨v, u, ys, rfl, hv, hu, hT, _, hf⟩
 rw [hp] at hv hu hT ⊢
 obtain ⟨va, vc, rfl, _, h1⟩ := EsIn.of_own hv
 obtain ⟨ua, uc, rfl, _, h2⟩ := TdsIn.of_own hu
 refine ⟨va, vc, ua, uc, ys, rfl, own_cap hv rfl, h1, h2, hT.tl, fun y hy => ?_, hf⟩
 obtain ⟨ya, yc, hye, _, h3⟩ := EsIn.of_own (hT.row y hy)
 unfold Td.v at hye
 injection hye with e1 e2 e3
 exact ⟨by rw [e1]; exact h3, e2⟩
theorem three_of {α β : Type} {f : α → β} {ys : List α} {a b c : β} (h : ys.map f = [a, b, c]) : ∃ x y z, ys = [x, y, z] := by
 have hl : ys.length = 3 := by rw [← List.length_map (f := f), h]; rfl
 cases ys with
 | nil => simp at hl
 | cons x r =>
  cases r with
  | nil => simp at hl
  | cons y r =>
   cases r with
   | nil => simp at hl
   | cons z r =>
    cases r with
    | nil => exact ⟨x, y, z, rfl⟩
    | cons _ _ => simp at hl
def caA : Ev := ⟨⟨5, 1, 0⟩, 1, 0⟩
def caB : Ev := ⟨⟨3, 2, 0⟩, 1, 0⟩
def caC : Ev := ⟨⟨9, 3, 3⟩, 1, 0⟩
def evZ : Ev := ⟨⟨0, 0, 0⟩, 0, 0⟩
theorem goodA : GoodE 2 [caA] := ⟨by decide, by unfold OnceE; decide, by intro x hx; simp at hx; subst hx; decide, by decide⟩
theorem goodBA : GoodE 2 [caB, caA] := ⟨by decide, by unfold OnceE; decide, by intro x hx; simp at hx; rcases hx with rfl | rfl <;> decide, by decide⟩
theorem awake_p1 : playC [caA] 2 [⟨1, caB, 0⟩] = ([caB, caA], [⟨0, []⟩], -1, 0) := by
 rw [show (2 : Int) = ((2 : Nat) : Int) from rfl, playC_ok goodA (by omega) (by intro a ha; simp at ha; subst ha; decide)]
 decide
theorem awake_p2 : playC [caB, caA] 2 [⟨1, caC, 0⟩] = ([caB, caA], [⟨4, []⟩], -1, 0) := by
 rw [show (2 : Int) = ((2 : Nat) : Int) from rfl, playC_ok goodBA (by omega) (by intro a ha; simp at ha; subst ha; decide)]
 decide
theorem awake_p3 : playC [caB, caA] 2 [⟨3, evZ, 5⟩, ⟨4, caA, 0⟩, ⟨2, evZ, 0⟩] = ([], [⟨0, [caB]⟩, ⟨0, [caA]⟩, ⟨6, []⟩], -1, 0) := by
 rw [show (2 : Int) = ((2 : Nat) : Int) from rfl, playC_ok goodBA (by omega) (by intro a ha; simp at ha; rcases ha with rfl | rfl | rfl <;> decide)]
 decide
theorem awake_c : countC [caB, caA] 3 5 = (1, 0) := by unfold countC; rw [if_pos (by decide)]; rfl
theorem awake_t : timesC [caB, caA] = [3, 5] := by decide
set_option maxRecDepth 100000 in
set_option maxHeartbeats 4000000 in
theorem cawake_any (w : World) : Calls Try.prog 9 #[] w fun e w' => e = .returned (.bool true) ∧ Fr0 none' w w' := by
 go_enter Try.func9, Try.ntmps9
 have F := Lib.hid (Fr0.refl none' w)
 go_wp2_with fail
 refine (cat_any 5 1 0 _).mono ?_
 rintro e wA ⟨rfl, hfA⟩
 have F := Lib.hid (F.out.trans hfA)
 clear hfA
 simp only [evV]
 go_wp2_with fail
 refine (cat_any 3 2 0 _).mono ?_
 rintro e wA ⟨rfl, hfA⟩
 have F := Lib.hid (F.out.trans hfA)
 clear hfA
 simp only [evV]
 go_wp2_with fail
 obtain ⟨ab, hab⟩ : ∃ b, wA.heap.size = b := ⟨_, rfl⟩
 obtain ⟨W1, hW1⟩ : ∃ W, ((wA.alloc (.cells #[.int .i64 5, .int .i64 1, .int .i64 0, .int .i64 1, .int .i64 0] 47)).alloc (.cells #[.int .i64 3, .int .i64 2, .int .i64 0, .int .i64 1, .int .i64 0] 47)).alloc (.cells #[.int .i64 5, .int .i64 1, .int .i64 0, .int .i64 1, .int .i64 0] 47) = W := ⟨_, rfl⟩
 have hA : W1.heap[ab]? = some (.cells #[.int .i64 5, .int .i64 1, .int .i64 0, .int .i64 1, .int .i64 0] 47 (0, 0)) := by
  rw [← hW1, ← hab]
  exact ((((Fr0.refl none' _).alloc _).alloc _).block _ (by rw [World.size_alloc]; omega) id).trans (World.alloc_heap_new wA _)
 have hB : W1.heap[ab + 1]? = some (.cells #[.int .i64 3, .int .i64 2, .int .i64 0, .int .i64 1, .int .i64 0] 47 (0, 0)) := by
  have h1 := World.alloc_heap_new (wA.alloc (.cells #[.int .i64 5, .int .i64 1, .int .i64 0, .int .i64 1, .int .i64 0] 47)) (.cells #[.int .i64 3, .int .i64 2, .int .i64 0, .int .i64 1, .int .i64 0] 47)
  rw [World.size_alloc, hab] at h1
  rw [← hW1]
  exact (((Fr0.refl none' _).alloc _).block _ (by rw [World.size_alloc, World.size_alloc, hab]; omega) id).trans h1
 have hl : EsIn W1 (some ⟨ab + 1 + 1, 0, none⟩) [caA] := by
  have h1 := World.alloc_heap_new ((wA.alloc (.cells #[.int .i64 5, .int .i64 1, .int .i64 0, .int .i64 1, .int .i64 0] 47)).alloc (.cells #[.int .i64 3, .int .i64 2, .int .i64 0, .int .i64 1, .int .i64 0] 47)) (.cells #[.int .i64 5, .int .i64 1, .int .i64 0, .int .i64 1, .int .i64 0] 47)
  rw [World.size_alloc, World.size_alloc, hab, hW1] at h1
  exact EsIn.of_cells (n := 1) h1 (by simp [flatEv, cev, caA])
 have HA := Lib.hid hA
 have HB := Lib.hid hB
 have F := Lib.hid (F.out.trans (show Fr0 none' wA W1 by rw [← hW1]; exact (((Fr0.refl _ _).alloc _).alloc _).alloc _))
 rw [hW1]
 try rw [hab]
 clear hA hB hW1 hab
 have HD := Do_told (n := 1) (cap := 1) awake_p1 hl rfl (by omega) (by omega) (by decide)
 simp only [actCV] at HD
 rw [show caB.key.time = 3 from rfl, show caB.key.source = 2 from rfl, show caB.key.seq = 0 from rfl, show caB.to = 1 from rfl, show caB.value = 0 from rfl] at HD
 refine HD.mono ?_
 clear hl HD
 rintro e w2 ⟨va, vc, ya, yc, rfl, hvc, hv, hy, hf⟩
 simp only [List.length_cons, List.length_nil, Nat.zero_add, Nat.reduceAdd] at hvc
 have HA := Lib.hid ((hf.block ab (Array.getElem?_eq_some_iff.1 HA.out).1 id).trans HA.out)
 have HB := Lib.hid ((hf.block (ab + 1) (Array.getElem?_eq_some_iff.1 HB.out).1 id).trans HB.out)
 have F := Lib.hid (F.out.trans hf)
 have HV := Lib.hid hv
 clear hv hy hf
 simp only [List.length_cons, List.length_nil, Nat.zero_add, Nat.reduceAdd]
 go_wp2_with fail
 obtain ⟨tb, htb⟩ : ∃ b, w2.heap.size = b := ⟨_, rfl⟩
 obtain ⟨W, hW⟩ : ∃ W, w2.alloc (.cells #[.int .i64 0, .slice ya 0 yc] 51) = W := ⟨_, rfl⟩
 have hf : Fr0 none' w2 W := by rw [← hW]; exact (Fr0.refl _ _).alloc _
 have hnew : W.heap[tb]? = some (.cells #[.int .i64 0, .slice ya 0 yc] 51 (0, 0)) := by rw [← hW, ← htb]; exact World.alloc_heap_new _ _
 rw [hW]
 try rw [htb]
 have HA := Lib.hid ((hf.block _ (Array.getElem?_eq_some_iff.1 HA.out).1 id).trans HA.out)
 have HB := Lib.hid ((hf.block _ (Array.getElem?_eq_some_iff.1 HB.out).1 id).trans HB.out)
 have HV := Lib.hid (HV.out.later hf)
 have F := Lib.hid (F.out.trans hf)
 try have HT := Lib.hid ((hf.block _ (Array.getElem?_eq_some_iff.1 HT.out).1 id).trans HT.out)
 try have HU := Lib.hid ((hf.block _ (Array.getElem?_eq_some_iff.1 HU.out).1 id).trans HU.out)
 try have HS := Lib.hid (HS.out.later hf)
 clear hf hW htb
 have HT := Lib.hid hnew
 clear hnew
 refine (cat_any 9 3 3 _).mono ?_
 rintro e wC ⟨rfl, hf⟩
 have HA := Lib.hid ((hf.block _ (Array.getElem?_eq_some_iff.1 HA.out).1 id).trans HA.out)
 have HB := Lib.hid ((hf.block _ (Array.getElem?_eq_some_iff.1 HB.out).1 id).trans HB.out)
 have HV := Lib.hid (HV.out.later hf)
 have F := Lib.hid (F.out.trans hf)
 try have HT := Lib.hid ((hf.block _ (Array.getElem?_eq_some_iff.1 HT.out).1 id).trans HT.out)
 try have HU := Lib.hid ((hf.block _ (Array.getElem?_eq_some_iff.1 HU.out).1 id).trans HU.out)
 try have HS := Lib.hid (HS.out.later hf)
 clear hf
 simp only [evV]
 go_wp2_with fail
 have HD := Do_told (n := 2) (cap := vc) awake_p2 HV.out rfl (by omega) hvc (by decide)
 simp only [actCV] at HD
 rw [show caC.key.time = 9 from rfl, show caC.key.source = 3 from rfl, show caC.key.seq = 3 from rfl, show caC.to = 1 from rfl, show caC.value = 0 from rfl] at HD
 refine HD.mono ?_
 clear HD
 rintro e w3 ⟨sa, sc, za, zc, rfl, hsc, hs, hz, hf⟩
 simp only [List.length_cons, List.length_nil, Nat.zero_add, Nat.reduceAdd] at hsc
 have HA := Lib.hid ((hf.block _ (Array.getElem?_eq_some_iff.1 HA.out).1 id).trans HA.out)
 have HB := Lib.hid ((hf.block _ (Array.getElem?_eq_some_iff.1 HB.out).1 id).trans HB.out)
 have HV := Lib.hid (HV.out.later hf)
 have F := Lib.hid (F.out.trans hf)
 try have HT := Lib.hid ((hf.block _ (Array.getElem?_eq_some_iff.1 HT.out).1 id).trans HT.out)
 try have HU := Lib.hid ((hf.block _ (Array.getElem?_eq_some_iff.1 HU.out).1 id).trans HU.out)
 try have HS := Lib.hid (HS.out.later hf)
 have HS := Lib.hid hs
 clear hs hz hf
 simp only [List.length_cons, List.length_nil, Nat.zero_add, Nat.reduceAdd]
 obtain ⟨ub, hub⟩ : ∃ b, w3.heap.size = b := ⟨_, rfl⟩
 obtain ⟨W, hW⟩ : ∃ W, w3.alloc (.cells #[.int .i64 4, .slice za 0 zc] 51) = W := ⟨_, rfl⟩
 have hf : Fr0 none' w3 W := by rw [← hW]; exact (Fr0.refl _ _).alloc _
 have hnew : W.heap[ub]? = some (.cells #[.int .i64 4, .slice za 0 zc] 51 (0, 0)) := by rw [← hW, ← hub]; exact World.alloc_heap_new _ _
 have HA := Lib.hid ((hf.block _ (Array.getElem?_eq_some_iff.1 HA.out).1 id).trans HA.out)
 have HB := Lib.hid ((hf.block _ (Array.getElem?_eq_some_iff.1 HB.out).1 id).trans HB.out)
 have HV := Lib.hid (HV.out.later hf)
 have F := Lib.hid (F.out.trans hf)
 try have HT := Lib.hid ((hf.block _ (Array.getElem?_eq_some_iff.1 HT.out).1 id).trans HT.out)
 try have HU := Lib.hid ((hf.block _ (Array.getElem?_eq_some_iff.1 HU.out).1 id).trans HU.out)
 try have HS := Lib.hid (HS.out.later hf)
 have HU := Lib.hid hnew
 clear hnew hf
 have a0 := cells_in HA.out 0
 have a1 := cells_in HA.out 1
 have a2 := cells_in HA.out 2
 have a3 := cells_in HA.out 3
 have a4 := cells_in HA.out 4
 simp at a0 a1 a2 a3 a4
 go_wp2_with fail
 clear a0 a1 a2 a3 a4
 try rw [hub]
 clear hW hub
 obtain ⟨lb, hlb⟩ : ∃ b, W.heap.size = b := ⟨_, rfl⟩
 obtain ⟨V, hV⟩ : ∃ V, W.alloc (.cells #[.int .u8 3, .int .i64 0, .int .i64 0, .int .i64 0, .int .i64 0, .int .i64 0, .int .i64 5, .int .u8 4, .int .i64 5, .int .i64 1, .int .i64 0, .int .i64 1, .int .i64 0, .int .i64 0, .int .u8 2, .int .i64 0, .int .i64 0, .int .i64 0, .int .i64 0, .int .i64 0, .int .i64 0] 49) = V := ⟨_, rfl⟩
 have hf : Fr0 none' W V := by rw [← hV]; exact (Fr0.refl _ _).alloc _
 have hnew : V.heap[lb]? = some (.cells #[.int .u8 3, .int .i64 0, .int .i64 0, .int .i64 0, .int .i64 0, .int .i64 0, .int .i64 5, .int .u8 4, .int .i64 5, .int .i64 1, .int .i64 0, .int .i64 1, .int .i64 0, .int .i64 0, .int .u8 2, .int .i64 0, .int .i64 0, .int .i64 0, .int .i64 0, .int .i64 0, .int .i64 0] 49 (0, 0)) := by rw [← hV, ← hlb]; exact World.alloc_heap_new _ _
 rw [hV]
 try rw [hlb]
 have HA := Lib.hid ((hf.block _ (Array.getElem?_eq_some_iff.1 HA.out).1 id).trans HA.out)
 have HB := Lib.hid ((hf.block _ (Array.getElem?_eq_some_iff.1 HB.out).1 id).trans HB.out)
 have HV := Lib.hid (HV.out.later hf)
 have F := Lib.hid (F.out.trans hf)
 try have HT := Lib.hid ((hf.block _ (Array.getElem?_eq_some_iff.1 HT.out).1 id).trans HT.out)
 try have HU := Lib.hid ((hf.block _ (Array.getElem?_eq_some_iff.1 HU.out).1 id).trans HU.out)
 try have HS := Lib.hid (HS.out.later hf)
 have hcas : CasIn V (some ⟨lb, 0, none⟩) [⟨3, evZ, 5⟩, ⟨4, caA, 0⟩, ⟨2, evZ, 0⟩] := fun i y hy => by
  match i with
  | 0 =>
   obtain rfl : _ = y := by simpa using hy
   exact ⟨_, _, rfl, cells_in hnew 0, cells_in hnew 1, cells_in hnew 2, cells_in hnew 3, cells_in hnew 4, cells_in hnew 5, cells_in hnew 6⟩
  | 1 =>
   obtain rfl : _ = y := by simpa using hy
   exact ⟨_, _, rfl, cells_in hnew 7, cells_in hnew 8, cells_in hnew 9, cells_in hnew 10, cells_in hnew 11, cells_in hnew 12, cells_in hnew 13⟩
  | 2 =>
   obtain rfl : _ = y := by simpa using hy
   exact ⟨_, _, rfl, cells_in hnew 14, cells_in hnew 15, cells_in hnew 16, cells_in hnew 17, cells_in hnew 18, cells_in hnew 19, cells_in hnew 20⟩
  | i + 3 => simp at hy
 have HP := Play_told (n := 2) (cap := vc) (m := 3) (ca := 3) awake_p3 HV.out rfl (by omega) hvc hcas rfl (by omega) (by intro x hx; simp at hx; rcases hx with rfl | rfl | rfl <;> decide)
 refine HP.mono ?_
 clear hnew hf hcas hV hlb HP
 rintro e w4 ⟨pa, pc, ua, uc, ys, rfl, _, hp, hu, hys, hyr, hf⟩
 have HA := Lib.hid ((hf.block _ (Array.getElem?_eq_some_iff.1 HA.out).1 id).trans HA.out)
 have HB := Lib.hid ((hf.block _ (Array.getElem?_eq_some_iff.1 HB.out).1 id).trans HB.out)
 have HV := Lib.hid (HV.out.later hf)
 have F := Lib.hid (F.out.trans hf)
 try have HT := Lib.hid ((hf.block _ (Array.getElem?_eq_some_iff.1 HT.out).1 id).trans HT.out)
 try have HU := Lib.hid ((hf.block _ (Array.getElem?_eq_some_iff.1 HU.out).1 id).trans HU.out)
 try have HS := Lib.hid (HS.out.later hf)
 obtain ⟨y0, y1, y2, rfl⟩ := three_of hys
 simp only [List.map_cons, List.map_nil, List.cons.injEq, and_true] at hys
 obtain ⟨t0, t1, t2⟩ := hys
 obtain ⟨m0, n0⟩ := hyr y0 (by simp)
 obtain ⟨m1, n1⟩ := hyr y1 (by simp)
 obtain ⟨m2, n2⟩ := hyr y2 (by simp)
 obtain ⟨e0, a0, k0, c0, v0⟩ := y0
 obtain ⟨e1, a1, k1, c1, v1⟩ := y1
 obtain ⟨e2, a2, k2, c2, v2⟩ := y2
 simp only [Td.tl, Tl.mk.injEq] at t0 t1 t2
 obtain ⟨rfl, rfl⟩ := t0
 obtain ⟨rfl, rfl⟩ := t1
 obtain ⟨rfl, rfl⟩ := t2
 simp only [List.length_cons, List.length_nil, Nat.zero_add] at n0 n1 n2
 subst n0 n1 n2
 simp only at m0 m1 m2
 have HM0 := Lib.hid m0
 have HM1 := Lib.hid m1
 have HTD := Lib.hid hu
 clear hf hyr hp m0 m1 m2 hu
 simp only [List.length_cons, List.length_nil, Nat.zero_add, Nat.reduceAdd]
 go_wp2_with fail
 refine (Count_any (n := 2) (cap := vc) (f := 3) (t := 5) [caB, caA] HV.out rfl (by omega)).mono ?_
 rw [awake_c]
 rintro e w5 ⟨rfl, hf⟩
 have HA := Lib.hid ((hf.block _ (Array.getElem?_eq_some_iff.1 HA.out).1 id).trans HA.out)
 have HB := Lib.hid ((hf.block _ (Array.getElem?_eq_some_iff.1 HB.out).1 id).trans HB.out)
 have HV := Lib.hid (HV.out.later hf)
 have F := Lib.hid (F.out.trans hf)
 try have HT := Lib.hid ((hf.block _ (Array.getElem?_eq_some_iff.1 HT.out).1 id).trans HT.out)
 try have HU := Lib.hid ((hf.block _ (Array.getElem?_eq_some_iff.1 HU.out).1 id).trans HU.out)
 try have HS := Lib.hid (HS.out.later hf)
 have HM0 := Lib.hid (HM0.out.later hf)
 have HM1 := Lib.hid (HM1.out.later hf)
 have HTD := Lib.hid (HTD.out.later hf)
 clear hf
 go_wp2_with fail
 refine (Times_any (n := 2) (cap := vc) [caB, caA] HV.out rfl (by omega)).mono ?_
 rw [if_pos (by decide), if_pos (by decide), if_pos (by decide), awake_t]
 rintro e w6 ⟨v, rfl, ht, hf⟩
 have HA := Lib.hid ((hf.block _ (Array.getElem?_eq_some_iff.1 HA.out).1 id).trans HA.out)
 have HB := Lib.hid ((hf.block _ (Array.getElem?_eq_some_iff.1 HB.out).1 id).trans HB.out)
 have HV := Lib.hid (HV.out.later hf)
 have F := Lib.hid (F.out.trans hf)
 try have HT := Lib.hid ((hf.block _ (Array.getElem?_eq_some_iff.1 HT.out).1 id).trans HT.out)
 try have HU := Lib.hid ((hf.block _ (Array.getElem?_eq_some_iff.1 HU.out).1 id).trans HU.out)
 try have HS := Lib.hid (HS.out.later hf)
 have HM0 := Lib.hid (HM0.out.later hf)
 have HM1 := Lib.hid (HM1.out.later hf)
 have HTD := Lib.hid (HTD.out.later hf)
 have HTI := Lib.hid ht
 clear hf ht
 go_wp2_with fail
 obtain ⟨g, o, rfl, d0⟩ := HTD.out 0 _ rfl
 obtain ⟨_, _, hg1, d1⟩ := HTD.out 1 _ rfl
 injection hg1 with hg1
 injection hg1 with hg1 ho1
 subst hg1 ho1
 obtain ⟨_, _, hg2, d2⟩ := HTD.out 2 _ rfl
 injection hg2 with hg2
 injection hg2 with hg2 ho2
 subst hg2 ho2
 obtain ⟨_, d0⟩ := d0
 obtain ⟨_, d1⟩ := d1
 obtain ⟨d2, _⟩ := d2
 simp only [Nat.zero_mul, Nat.add_zero, Nat.one_mul, Nat.reduceMul] at d0 d1 d2
 have z0 := cells_in HA.out 0
 have z1 := cells_in HA.out 1
 have z2 := cells_in HA.out 2
 have z3 := cells_in HA.out 3
 have z4 := cells_in HA.out 4
 have y0 := cells_in HB.out 0
 have y1 := cells_in HB.out 1
 have y2 := cells_in HB.out 2
 have y3 := cells_in HB.out 3
 have y4 := cells_in HB.out 4
 have t0 := cells_in HT.out 0
 have u0 := cells_in HU.out 0
 simp at z0 z1 z2 z3 z4 y0 y1 y2 y3 y4 t0 u0
 have HZ := Lib.hid (fun (W' : World) (hf : Fr0 none' w6 W') => And.intro (hf.later z0) <| And.intro (hf.later z1) <| And.intro (hf.later z2) <| And.intro (hf.later z3) <| And.intro (hf.later z4) <| And.intro (hf.later y0) <| And.intro (hf.later y1) <| And.intro (hf.later y2) <| And.intro (hf.later y3) <| And.intro (hf.later y4) <| And.intro (hf.later t0) <| And.intro (hf.later u0) <| And.intro (hf.later d0) <| And.intro (hf.later d1) (hf.later d2))
 clear z0 z1 z2 z3 z4 y0 y1 y2 y3 y4 t0 u0 d0 d1 d2
 obtain ⟨ti, tc, rfl, _, hti⟩ := IsIn.of_own HTI.out
 have HTX := Lib.hid hti
 clear hti
 refine wp_region_held_drew (S := fun W' => Fr0 none' w6 W') (by kernel_rfl) ((Fr0.refl none' w6).drew) (fun hHeld => ?_)
 generalize w6.drew = WD at hHeld ⊢
 refine tkn (i := 0) (v := .int .i64 0) (fun W' hSW => ?_) ?_
 ·first | (go_simp; done) | exact rfl | (go_simp; rfl) | (go_simp; omega)
 try simp only [pUt, pUn, sEt, sEz, sEs]
 refine tkn (i := 1) (v := .int .i64 0) (fun W' hSW => ?_) ?_
 ·first | (go_simp; done) | exact rfl | (go_simp; rfl) | (go_simp; omega)
 try simp only [pUt, pUn, sEt, sEz, sEs]
 refine tkn (i := 2) (v := .int .i64 0) (fun W' hSW => ?_) ?_
 ·first | (go_simp; done) | exact rfl | (go_simp; rfl) | (go_simp; omega)
 try simp only [pUt, pUn, sEt, sEz, sEs]
 refine tkn (i := 3) (v := .int .i64 0) (fun W' hSW => ?_) ?_
 ·first | (go_simp; done) | exact rfl | (go_simp; rfl) | (go_simp; omega)
 try simp only [pUt, pUn, sEt, sEz, sEs]
 refine tkn (i := 4) (v := .int .i64 0) (fun W' hSW => ?_) ?_
 ·first | (go_simp; done) | exact rfl | (go_simp; rfl) | (go_simp; omega)
 try simp only [pUt, pUn, sEt, sEz, sEs]
 refine tkn (i := 5) (v := .int .i64 0) (fun W' hSW => ?_) ?_
 ·first | (go_simp; done) | exact rfl | (go_simp; rfl) | (go_simp; omega)
 try simp only [pUt, pUn, sEt, sEz, sEs]
 refine tkn (i := 6) (v := .int .i64 0) (fun W' hSW => ?_) ?_
 ·first | (go_simp; done) | exact rfl | (go_simp; rfl) | (go_simp; omega)
 try simp only [pUt, pUn, sEt, sEz, sEs]
 refine tkn (i := 7) (v := .int .i64 0) (fun W' hSW => ?_) ?_
 ·first | (go_simp; done) | exact rfl | (go_simp; rfl) | (go_simp; omega)
 try simp only [pUt, pUn, sEt, sEz, sEs]
 refine tkn (i := 8) (v := .int .i64 0) (fun W' hSW => ?_) ?_
 ·first | (go_simp; done) | exact rfl | (go_simp; rfl) | (go_simp; omega)
 try simp only [pUt, pUn, sEt, sEz, sEs]
 refine tkn (i := 9) (v := .bool true) (fun W' hSW => ?_) ?_
 ·first | (go_simp; done) | exact rfl | (go_simp; rfl) | (go_simp; omega)
 try simp only [pUt, pUn, sEt, sEz, sEs]
 refine tkn (i := 10) (v := .bool true) (fun W' hSW => ?_) ?_
 ·first | (go_simp; done) | exact rfl | (go_simp; rfl) | (go_simp; omega)
 try simp only [pUt, pUn, sEt, sEz, sEs]
 refine tkn (i := 11) (v := .slice va 2 vc) (fun W' hSW => ?_) ?_
 ·first | (go_simp; done) | exact rfl | (go_simp; rfl) | (go_simp; omega)
 try simp only [pUt, pUn, sEt, sEz, sEs]
 refine tkn (i := 12) (v := .agg #[.int .i64 3, .int .i64 2, .int .i64 0, .int .i64 1, .int .i64 0]) (fun W' hSW => ?_) ?_
 ·obtain ⟨z0, z1, z2, z3, z4, y0, y1, y2, y3, y4, t0, u0, d0, d1, d2⟩ := HZ.out W' hSW
  first | (go_simp; done) | exact rfl | (go_simp; rfl) | (go_simp; omega)
 try simp only [pUt, pUn, sEt, sEz, sEs]
 refine tkn (i := 13) (v := .agg #[.int .i64 5, .int .i64 1, .int .i64 0, .int .i64 1, .int .i64 0]) (fun W' hSW => ?_) ?_
 ·obtain ⟨z0, z1, z2, z3, z4, y0, y1, y2, y3, y4, t0, u0, d0, d1, d2⟩ := HZ.out W' hSW
  first | (go_simp; done) | exact rfl | (go_simp; rfl) | (go_simp; omega)
 try simp only [pUt, pUn, sEt, sEz, sEs]
 refine take_call (i := 14) rfl (by kernel_rfl) (by kernel_rfl) (fun K hK => ?_)
 go_simp
 obtain ⟨nb, hnb⟩ : ∃ b, WD.heap.size = b := ⟨_, rfl⟩
 obtain ⟨W2, hW2⟩ : ∃ W2, WD.alloc (.cells #[.int .i64 3, .int .i64 2, .int .i64 0, .int .i64 1, .int .i64 0, .int .i64 5, .int .i64 1, .int .i64 0, .int .i64 1, .int .i64 0] 47) = W2 := ⟨_, rfl⟩
 have hn2 : W2.heap[nb]? = some (.cells #[.int .i64 3, .int .i64 2, .int .i64 0, .int .i64 1, .int .i64 0, .int .i64 5, .int .i64 1, .int .i64 0, .int .i64 1, .int .i64 0] 47 (0, 0)) := by rw [← hW2, ← hnb]; exact World.alloc_heap_new _ _
 have F2 := Lib.hid (hHeld.trans (show Fr0 none' WD W2 by rw [← hW2]; exact (Fr0.refl _ _).alloc _))
 rw [hW2]
 try rw [hnb]
 clear hW2 hnb
 refine hK.out _ _ F2.out (fun hHeld => ?_)
 clear hK K
 try simp only [pUt, pUn, sEt, sEz, sEs]
 refine take_call (i := 15) rfl (by kernel_rfl) (by kernel_rfl) (fun K hK => ?_)
 go_simp
 have HSM := Same_any va (some ⟨nb, 0, none⟩) 2 2 vc 2 [caB, caA] [caB, caA] W2 rfl rfl (by omega) (by omega) (HV.out.later hHeld) (EsIn.of_cells (n := 2) hn2 (by simp [flatEv, cev, caA, caB]))
 rw [show decide (([caB, caA] : List Ev) = [caB, caA]) = true by decide] at HSM
 refine HSM.mono ?_
 clear HSM
 rintro e WD ⟨rfl, hfA⟩
 have FA := Lib.hid (hHeld.trans hfA)
 clear hfA
 go_wp2_with fail
 refine hK.out _ _ FA.out (fun hHeld => ?_)
 clear hK K
 try simp only [pUt, pUn, sEt, sEz, sEs]
 refine tkn (i := 16) (v := .bool true) (fun W' hSW => ?_) ?_
 ·first | (go_simp; done) | exact rfl | (go_simp; rfl) | (go_simp; omega)
 try simp only [pUt, pUn, sEt, sEz, sEs]
 refine tkn (i := 17) (v := .bool true) (fun W' hSW => ?_) ?_
 ·first | (go_simp; done) | exact rfl | (go_simp; rfl) | (go_simp; omega)
 try simp only [pUt, pUn, sEt, sEz, sEs]
 refine tkn (i := 18) (v := .pointer (some ⟨tb, 0, none⟩)) (fun W' hSW => ?_) ?_
 ·obtain ⟨z0, z1, z2, z3, z4, y0, y1, y2, y3, y4, t0, u0, d0, d1, d2⟩ := HZ.out W' hSW
  first | (go_simp; done) | exact rfl | (go_simp; rfl) | (go_simp; omega)
 try simp only [pUt, pUn, sEt, sEz, sEs]
 refine tkn (i := 19) (v := .int .i64 0) (fun W' hSW => ?_) ?_
 ·obtain ⟨z0, z1, z2, z3, z4, y0, y1, y2, y3, y4, t0, u0, d0, d1, d2⟩ := HZ.out W' hSW
  first | (go_simp; done) | exact rfl | (go_simp; rfl) | (go_simp; omega)
 try simp only [pUt, pUn, sEt, sEz, sEs]
 refine tkn (i := 20) (v := .bool true) (fun W' hSW => ?_) ?_
 ·first | (go_simp; done) | exact rfl | (go_simp; rfl) | (go_simp; omega)
 try simp only [pUt, pUn, sEt, sEz, sEs]
 refine tkn (i := 21) (v := .bool true) (fun W' hSW => ?_) ?_
 ·first | (go_simp; done) | exact rfl | (go_simp; rfl) | (go_simp; omega)
 try simp only [pUt, pUn, sEt, sEz, sEs]
 refine tkn (i := 22) (v := .bool true) (fun W' hSW => ?_) ?_
 ·first | (go_simp; done) | exact rfl | (go_simp; rfl) | (go_simp; omega)
 try simp only [pUt, pUn, sEt, sEz, sEs]
 refine tkn (i := 23) (v := .pointer (some ⟨ub, 0, none⟩)) (fun W' hSW => ?_) ?_
 ·obtain ⟨z0, z1, z2, z3, z4, y0, y1, y2, y3, y4, t0, u0, d0, d1, d2⟩ := HZ.out W' hSW
  first | (go_simp; done) | exact rfl | (go_simp; rfl) | (go_simp; omega)
 try simp only [pUt, pUn, sEt, sEz, sEs]
 refine tkn (i := 24) (v := .int .i64 4) (fun W' hSW => ?_) ?_
 ·obtain ⟨z0, z1, z2, z3, z4, y0, y1, y2, y3, y4, t0, u0, d0, d1, d2⟩ := HZ.out W' hSW
  first | (go_simp; done) | exact rfl | (go_simp; rfl) | (go_simp; omega)
 try simp only [pUt, pUn, sEt, sEz, sEs]
 refine tkn (i := 25) (v := .bool true) (fun W' hSW => ?_) ?_
 ·first | (go_simp; done) | exact rfl | (go_simp; rfl) | (go_simp; omega)
 try simp only [pUt, pUn, sEt, sEz, sEs]
 refine tkn (i := 26) (v := .bool true) (fun W' hSW => ?_) ?_
 ·first | (go_simp; done) | exact rfl | (go_simp; rfl) | (go_simp; omega)
 try simp only [pUt, pUn, sEt, sEz, sEs]
 refine tkn (i := 27) (v := .bool true) (fun W' hSW => ?_) ?_
 ·first | (go_simp; done) | exact rfl | (go_simp; rfl) | (go_simp; omega)
 try simp only [pUt, pUn, sEt, sEz, sEs]
 refine tkn (i := 28) (v := .slice sa 2 sc) (fun W' hSW => ?_) ?_
 ·first | (go_simp; done) | exact rfl | (go_simp; rfl) | (go_simp; omega)
 try simp only [pUt, pUn, sEt, sEz, sEs]
 refine tkn (i := 29) (v := .slice va 2 vc) (fun W' hSW => ?_) ?_
 ·first | (go_simp; done) | exact rfl | (go_simp; rfl) | (go_simp; omega)
 try simp only [pUt, pUn, sEt, sEz, sEs]
 refine take_call (i := 30) rfl (by kernel_rfl) (by kernel_rfl) (fun K hK => ?_)
 go_simp
 have HSM := Same_any sa va 2 2 sc vc [caB, caA] [caB, caA] WD rfl rfl (by omega) (by omega) (HS.out.later hHeld) (HV.out.later hHeld)
 rw [show decide (([caB, caA] : List Ev) = [caB, caA]) = true by decide] at HSM
 refine HSM.mono ?_
 clear HSM
 rintro e WD ⟨rfl, hfA⟩
 have FA := Lib.hid (hHeld.trans hfA)
 clear hfA
 go_wp2_with fail
 refine hK.out _ _ FA.out (fun hHeld => ?_)
 clear hK K
 try simp only [pUt, pUn, sEt, sEz, sEs]
 refine tkn (i := 31) (v := .bool true) (fun W' hSW => ?_) ?_
 ·first | (go_simp; done) | exact rfl | (go_simp; rfl) | (go_simp; omega)
 try simp only [pUt, pUn, sEt, sEz, sEs]
 refine tkn (i := 32) (v := .bool true) (fun W' hSW => ?_) ?_
 ·first | (go_simp; done) | exact rfl | (go_simp; rfl) | (go_simp; omega)
 try simp only [pUt, pUn, sEt, sEz, sEs]
 refine tkn (i := 33) (v := .slice pa 0 pc) (fun W' hSW => ?_) ?_
 ·first | (go_simp; done) | exact rfl | (go_simp; rfl) | (go_simp; omega)
 try simp only [pUt, pUn, sEt, sEz, sEs]
 refine tkn (i := 34) (v := .int .i64 0) (fun W' hSW => ?_) ?_
 ·first | (go_simp; done) | exact rfl | (go_simp; rfl) | (go_simp; omega)
 try simp only [pUt, pUn, sEt, sEz, sEs]
 refine tkn (i := 35) (v := .bool true) (fun W' hSW => ?_) ?_
 ·first | (go_simp; done) | exact rfl | (go_simp; rfl) | (go_simp; omega)
 try simp only [pUt, pUn, sEt, sEz, sEs]
 refine tkn (i := 36) (v := .bool true) (fun W' hSW => ?_) ?_
 ·first | (go_simp; done) | exact rfl | (go_simp; rfl) | (go_simp; omega)
 try simp only [pUt, pUn, sEt, sEz, sEs]
 refine tkn (i := 37) (v := .bool true) (fun W' hSW => ?_) ?_
 ·first | (go_simp; done) | exact rfl | (go_simp; rfl) | (go_simp; omega)
 try simp only [pUt, pUn, sEt, sEz, sEs]
 refine tkn (i := 38) (v := .int .i64 (-1)) (fun W' hSW => ?_) ?_
 ·first | (go_simp; done) | exact rfl | (go_simp; rfl) | (go_simp; omega)
 try simp only [pUt, pUn, sEt, sEz, sEs]
 refine tkn (i := 39) (v := .bool true) (fun W' hSW => ?_) ?_
 ·first | (go_simp; done) | exact rfl | (go_simp; rfl) | (go_simp; omega)
 try simp only [pUt, pUn, sEt, sEz, sEs]
 refine tkn (i := 40) (v := .bool true) (fun W' hSW => ?_) ?_
 ·first | (go_simp; done) | exact rfl | (go_simp; rfl) | (go_simp; omega)
 try simp only [pUt, pUn, sEt, sEz, sEs]
 refine tkn (i := 41) (v := .bool true) (fun W' hSW => ?_) ?_
 ·first | (go_simp; done) | exact rfl | (go_simp; rfl) | (go_simp; omega)
 try simp only [pUt, pUn, sEt, sEz, sEs]
 refine tkn (i := 42) (v := .slice (some ⟨g, o, none⟩) 3 uc) (fun W' hSW => ?_) ?_
 ·first | (go_simp; done) | exact rfl | (go_simp; rfl) | (go_simp; omega)
 try simp only [pUt, pUn, sEt, sEz, sEs]
 refine tkn (i := 43) (v := .int .i64 3) (fun W' hSW => ?_) ?_
 ·first | (go_simp; done) | exact rfl | (go_simp; rfl) | (go_simp; omega)
 try simp only [pUt, pUn, sEt, sEz, sEs]
 refine tkn (i := 44) (v := .bool true) (fun W' hSW => ?_) ?_
 ·first | (go_simp; done) | exact rfl | (go_simp; rfl) | (go_simp; omega)
 try simp only [pUt, pUn, sEt, sEz, sEs]
 refine tkn (i := 45) (v := .bool true) (fun W' hSW => ?_) ?_
 ·first | (go_simp; done) | exact rfl | (go_simp; rfl) | (go_simp; omega)
 try simp only [pUt, pUn, sEt, sEz, sEs]
 refine tkn (i := 46) (v := .bool true) (fun W' hSW => ?_) ?_
 ·first | (go_simp; done) | exact rfl | (go_simp; rfl) | (go_simp; omega)
 try simp only [pUt, pUn, sEt, sEz, sEs]
 refine tkn (i := 47) (v := .slice (some ⟨g, o, none⟩) 3 uc) (fun W' hSW => ?_) ?_
 ·first | (go_simp; done) | exact rfl | (go_simp; rfl) | (go_simp; omega)
 try simp only [pUt, pUn, sEt, sEz, sEs]
 refine tkn (i := 48) (v := .pointer (some ⟨g, o, none⟩)) (fun W' hSW => ?_) ?_
 ·first | (go_simp; done) | exact rfl | (go_simp; rfl) | (go_simp; omega)
 try simp only [pUt, pUn, sEt, sEz, sEs]
 refine tkn (i := 49) (v := .pointer (some ⟨g, o + 1, none⟩)) (fun W' hSW => ?_) ?_
 ·first | (go_simp; done) | exact rfl | (go_simp; rfl) | (go_simp; omega)
 try simp only [pUt, pUn, sEt, sEz, sEs]
 refine tkn (i := 50) (v := .slice a0 1 c0) (fun W' hSW => ?_) ?_
 ·obtain ⟨z0, z1, z2, z3, z4, y0, y1, y2, y3, y4, t0, u0, d0, d1, d2⟩ := HZ.out W' hSW
  first | (go_simp; done) | exact rfl | (go_simp; rfl) | (go_simp; omega)
 try simp only [pUt, pUn, sEt, sEz, sEs]
 refine tkn (i := 51) (v := .agg #[.int .i64 3, .int .i64 2, .int .i64 0, .int .i64 1, .int .i64 0]) (fun W' hSW => ?_) ?_
 ·obtain ⟨z0, z1, z2, z3, z4, y0, y1, y2, y3, y4, t0, u0, d0, d1, d2⟩ := HZ.out W' hSW
  first | (go_simp; done) | exact rfl | (go_simp; rfl) | (go_simp; omega)
 try simp only [pUt, pUn, sEt, sEz, sEs]
 refine take_call (i := 52) rfl (by kernel_rfl) (by kernel_rfl) (fun K hK => ?_)
 go_simp
 obtain ⟨nb, hnb⟩ : ∃ b, WD.heap.size = b := ⟨_, rfl⟩
 obtain ⟨W2, hW2⟩ : ∃ W2, WD.alloc (.cells #[.int .i64 3, .int .i64 2, .int .i64 0, .int .i64 1, .int .i64 0] 47) = W2 := ⟨_, rfl⟩
 have hn2 : W2.heap[nb]? = some (.cells #[.int .i64 3, .int .i64 2, .int .i64 0, .int .i64 1, .int .i64 0] 47 (0, 0)) := by rw [← hW2, ← hnb]; exact World.alloc_heap_new _ _
 have F2 := Lib.hid (hHeld.trans (show Fr0 none' WD W2 by rw [← hW2]; exact (Fr0.refl _ _).alloc _))
 rw [hW2]
 try rw [hnb]
 clear hW2 hnb
 refine hK.out _ _ F2.out (fun hHeld => ?_)
 clear hK K
 try simp only [pUt, pUn, sEt, sEz, sEs]
 refine take_call (i := 53) rfl (by kernel_rfl) (by kernel_rfl) (fun K hK => ?_)
 go_simp
 have HSM := Same_any a0 (some ⟨nb, 0, none⟩) 1 1 c0 1 [caB] [caB] W2 rfl rfl (by omega) (by omega) (HM0.out.later hHeld) (EsIn.of_cells (n := 1) hn2 (by simp [flatEv, cev, caB]))
 rw [show decide (([caB] : List Ev) = [caB]) = true by decide] at HSM
 refine HSM.mono ?_
 clear HSM
 rintro e WD ⟨rfl, hfA⟩
 have FA := Lib.hid (hHeld.trans hfA)
 clear hfA
 go_wp2_with fail
 refine hK.out _ _ FA.out (fun hHeld => ?_)
 clear hK K
 try simp only [pUt, pUn, sEt, sEz, sEs]
 refine tkn (i := 54) (v := .bool true) (fun W' hSW => ?_) ?_
 ·first | (go_simp; done) | exact rfl | (go_simp; rfl) | (go_simp; omega)
 try simp only [pUt, pUn, sEt, sEz, sEs]
 refine tkn (i := 55) (v := .bool true) (fun W' hSW => ?_) ?_
 ·first | (go_simp; done) | exact rfl | (go_simp; rfl) | (go_simp; omega)
 try simp only [pUt, pUn, sEt, sEz, sEs]
 refine tkn (i := 56) (v := .slice (some ⟨g, o, none⟩) 3 uc) (fun W' hSW => ?_) ?_
 ·first | (go_simp; done) | exact rfl | (go_simp; rfl) | (go_simp; omega)
 try simp only [pUt, pUn, sEt, sEz, sEs]
 refine tkn (i := 57) (v := .pointer (some ⟨g, o + 2, none⟩)) (fun W' hSW => ?_) ?_
 ·first | (go_simp; done) | exact rfl | (go_simp; rfl) | (go_simp; omega)
 try simp only [pUt, pUn, sEt, sEz, sEs]
 refine tkn (i := 58) (v := .pointer (some ⟨g, o + 2 + 1, none⟩)) (fun W' hSW => ?_) ?_
 ·first | (go_simp; done) | exact rfl | (go_simp; rfl) | (go_simp; omega)
 try simp only [pUt, pUn, sEt, sEz, sEs]
 refine tkn (i := 59) (v := .slice a1 1 c1) (fun W' hSW => ?_) ?_
 ·obtain ⟨z0, z1, z2, z3, z4, y0, y1, y2, y3, y4, t0, u0, d0, d1, d2⟩ := HZ.out W' hSW
  first | (go_simp; done) | exact rfl | (go_simp; rfl) | (go_simp; omega)
 try simp only [pUt, pUn, sEt, sEz, sEs]
 refine tkn (i := 60) (v := .agg #[.int .i64 5, .int .i64 1, .int .i64 0, .int .i64 1, .int .i64 0]) (fun W' hSW => ?_) ?_
 ·obtain ⟨z0, z1, z2, z3, z4, y0, y1, y2, y3, y4, t0, u0, d0, d1, d2⟩ := HZ.out W' hSW
  first | (go_simp; done) | exact rfl | (go_simp; rfl) | (go_simp; omega)
 try simp only [pUt, pUn, sEt, sEz, sEs]
 refine take_call (i := 61) rfl (by kernel_rfl) (by kernel_rfl) (fun K hK => ?_)
 go_simp
 obtain ⟨nb, hnb⟩ : ∃ b, WD.heap.size = b := ⟨_, rfl⟩
 obtain ⟨W2, hW2⟩ : ∃ W2, WD.alloc (.cells #[.int .i64 5, .int .i64 1, .int .i64 0, .int .i64 1, .int .i64 0] 47) = W2 := ⟨_, rfl⟩
 have hn2 : W2.heap[nb]? = some (.cells #[.int .i64 5, .int .i64 1, .int .i64 0, .int .i64 1, .int .i64 0] 47 (0, 0)) := by rw [← hW2, ← hnb]; exact World.alloc_heap_new _ _
 have F2 := Lib.hid (hHeld.trans (show Fr0 none' WD W2 by rw [← hW2]; exact (Fr0.refl _ _).alloc _))
 rw [hW2]
 try rw [hnb]
 clear hW2 hnb
 refine hK.out _ _ F2.out (fun hHeld => ?_)
 clear hK K
 try simp only [pUt, pUn, sEt, sEz, sEs]
 refine take_call (i := 62) rfl (by kernel_rfl) (by kernel_rfl) (fun K hK => ?_)
 go_simp
 have HSM := Same_any a1 (some ⟨nb, 0, none⟩) 1 1 c1 1 [caA] [caA] W2 rfl rfl (by omega) (by omega) (HM1.out.later hHeld) (EsIn.of_cells (n := 1) hn2 (by simp [flatEv, cev, caA]))
 rw [show decide (([caA] : List Ev) = [caA]) = true by decide] at HSM
 refine HSM.mono ?_
 clear HSM
 rintro e WD ⟨rfl, hfA⟩
 have FA := Lib.hid (hHeld.trans hfA)
 clear hfA
 go_wp2_with fail
 refine hK.out _ _ FA.out (fun hHeld => ?_)
 clear hK K
 try simp only [pUt, pUn, sEt, sEz, sEs]
 refine tkn (i := 63) (v := .bool true) (fun W' hSW => ?_) ?_
 ·first | (go_simp; done) | exact rfl | (go_simp; rfl) | (go_simp; omega)
 try simp only [pUt, pUn, sEt, sEz, sEs]
 refine tkn (i := 64) (v := .bool true) (fun W' hSW => ?_) ?_
 ·first | (go_simp; done) | exact rfl | (go_simp; rfl) | (go_simp; omega)
 try simp only [pUt, pUn, sEt, sEz, sEs]
 refine tkn (i := 65) (v := .slice (some ⟨g, o, none⟩) 3 uc) (fun W' hSW => ?_) ?_
 ·first | (go_simp; done) | exact rfl | (go_simp; rfl) | (go_simp; omega)
 try simp only [pUt, pUn, sEt, sEz, sEs]
 refine tkn (i := 66) (v := .pointer (some ⟨g, o + 4, none⟩)) (fun W' hSW => ?_) ?_
 ·first | (go_simp; done) | exact rfl | (go_simp; rfl) | (go_simp; omega)
 try simp only [pUt, pUn, sEt, sEz, sEs]
 refine tkn (i := 67) (v := .pointer (some ⟨g, o + 4, none⟩)) (fun W' hSW => ?_) ?_
 ·first | (go_simp; done) | exact rfl | (go_simp; rfl) | (go_simp; omega)
 try simp only [pUt, pUn, sEt, sEz, sEs]
 refine tkn (i := 68) (v := .int .i64 6) (fun W' hSW => ?_) ?_
 ·obtain ⟨z0, z1, z2, z3, z4, y0, y1, y2, y3, y4, t0, u0, d0, d1, d2⟩ := HZ.out W' hSW
  first | (go_simp; done) | exact rfl | (go_simp; rfl) | (go_simp; omega)
 try simp only [pUt, pUn, sEt, sEz, sEs]
 refine tkn (i := 69) (v := .bool true) (fun W' hSW => ?_) ?_
 ·first | (go_simp; done) | exact rfl | (go_simp; rfl) | (go_simp; omega)
 try simp only [pUt, pUn, sEt, sEz, sEs]
 refine tkn (i := 70) (v := .bool true) (fun W' hSW => ?_) ?_
 ·first | (go_simp; done) | exact rfl | (go_simp; rfl) | (go_simp; omega)
 try simp only [pUt, pUn, sEt, sEz, sEs]
 refine tkn (i := 71) (v := .bool true) (fun W' hSW => ?_) ?_
 ·first | (go_simp; done) | exact rfl | (go_simp; rfl) | (go_simp; omega)
 try simp only [pUt, pUn, sEt, sEz, sEs]
 refine tkn (i := 72) (v := .int .i64 1) (fun W' hSW => ?_) ?_
 ·first | (go_simp; done) | exact rfl | (go_simp; rfl) | (go_simp; omega)
 try simp only [pUt, pUn, sEt, sEz, sEs]
 refine tkn (i := 73) (v := .bool true) (fun W' hSW => ?_) ?_
 ·first | (go_simp; done) | exact rfl | (go_simp; rfl) | (go_simp; omega)
 try simp only [pUt, pUn, sEt, sEz, sEs]
 refine tkn (i := 74) (v := .bool true) (fun W' hSW => ?_) ?_
 ·first | (go_simp; done) | exact rfl | (go_simp; rfl) | (go_simp; omega)
 try simp only [pUt, pUn, sEt, sEz, sEs]
 refine tkn (i := 75) (v := .bool true) (fun W' hSW => ?_) ?_
 ·first | (go_simp; done) | exact rfl | (go_simp; rfl) | (go_simp; omega)
 try simp only [pUt, pUn, sEt, sEz, sEs]
 refine tkn (i := 76) (v := .slice ti 2 tc) (fun W' hSW => ?_) ?_
 ·first | (go_simp; done) | exact rfl | (go_simp; rfl) | (go_simp; omega)
 try simp only [pUt, pUn, sEt, sEz, sEs]
 refine take_call (i := 77) rfl (by kernel_rfl) (by kernel_rfl) (fun K hK => ?_)
 go_simp
 obtain ⟨nb, hnb⟩ : ∃ b, WD.heap.size = b := ⟨_, rfl⟩
 obtain ⟨W2, hW2⟩ : ∃ W2, WD.alloc (.cells #[.int .i64 3, .int .i64 5] 3) = W2 := ⟨_, rfl⟩
 have hn2 : W2.heap[nb]? = some (.cells #[.int .i64 3, .int .i64 5] 3 (0, 0)) := by rw [← hW2, ← hnb]; exact World.alloc_heap_new _ _
 have F2 := Lib.hid (hHeld.trans (show Fr0 none' WD W2 by rw [← hW2]; exact (Fr0.refl _ _).alloc _))
 rw [hW2]
 try rw [hnb]
 clear hW2 hnb
 refine hK.out _ _ F2.out (fun hHeld => ?_)
 clear hK K
 try simp only [pUt, pUn, sEt, sEz, sEs]
 have hii : IsIn W2 (some ⟨nb, 0, none⟩) [3, 5] := fun i x hx => by
  match i with
  | 0 =>
   obtain rfl : _ = x := by simpa using hx
   exact ⟨_, _, rfl, cells_in hn2 0⟩
  | 1 =>
   obtain rfl : _ = x := by simpa using hx
   exact ⟨_, _, rfl, cells_in hn2 1⟩
  | i + 2 => simp at hx
 refine take_call (i := 78) rfl (by kernel_rfl) (by kernel_rfl) (fun K hK => ?_)
 go_simp
 have HSM := sameIs_any ti (some ⟨nb, 0, none⟩) 2 2 tc 2 [3, 5] [3, 5] W2 rfl rfl (by omega) (by omega) (HTX.out.later hHeld) hii
 rw [show decide (([3, 5] : List Int) = [3, 5]) = true by decide] at HSM
 refine HSM.mono ?_
 clear HSM
 rintro e WD ⟨rfl, hfA⟩
 have FA := Lib.hid (hHeld.trans hfA)
 clear hfA
 go_wp2_with fail
 refine hK.out _ _ FA.out (fun hHeld => ?_)
 clear hK K
 try simp only [pUt, pUn, sEt, sEz, sEs]
 refine tkn (i := 79) (v := .bool true) (fun W' hSW => ?_) ?_
 ·first | (go_simp; done) | exact rfl | (go_simp; rfl) | (go_simp; omega)
 try simp only [pUt, pUn, sEt, sEz, sEs]
 refine tkn (i := 80) (v := .bool true) (fun W' hSW => ?_) ?_
 ·first | (go_simp; done) | exact rfl | (go_simp; rfl) | (go_simp; omega)
 try simp only [pUt, pUn, sEt, sEz, sEs]
 refine wpAnyH_done (by kernel_rfl) ?_ _
 have FE := Lib.hid (F.out.trans hHeld)
 clear hHeld
 go_wp2_with fail
 go_ret
 exact ⟨rfl, FE.out⟩
end Go.Proofs.Ytmbjfmlicffclaa

/-
  CalendarCounts.
-/
namespace Go.Proofs.Ytmbjfmlicffclaa
open Go Go.RowKit
attribute [local go_sem ↓] Go.wp_at_zero Go.wp_at_succ
attribute [local go_sem] Oper.semAt_some wide_fn wide_depth wide_fnR wide_depthR

set_option maxRecDepth 100000 in
set_option maxHeartbeats 4000000 in
theorem counts_any {w : World} {a : Option Addr} {n cap : Nat} {f t : Int} (L : List Ev) (h : EsIn w a L) (hl : L.length = n) (hn : n ≤ 10000) :
  Calls Try.prog 15 #[.slice a n cap, .int .i64 f, .int .i64 t] w fun e w' => e = .returned (.bool true) ∧ Fr0 none' w w' := by
 have HC := Lib.hid (CloneE (cap := cap) L h hl (by omega))
 have H := Lib.hid h
 have Hl := Lib.hid hl
 clear h hl
 go_enter Try.func15, Try.ntmps15
 go_wp2_with fail
 refine HC.out.mono ?_
 rintro e w1 ⟨v, rfl, hv, hf⟩
 obtain ⟨va, vc, rfl, _, hvi⟩ := EsIn.of_own hv
 have F := Lib.hid hf
 have H := Lib.hid (H.out.later hf)
 have HV := Lib.hid hvi
 clear hv hvi hf HC
 go_wp2_with fail
 refine (Count_any (cap := vc) (f := f) (t := t) L HV.out Hl.out hn).mono ?_
 rintro e w2 ⟨rfl, hf⟩
 have F := Lib.hid (F.out.trans hf)
 have H := Lib.hid (H.out.later hf)
 have HV := Lib.hid (HV.out.later hf)
 clear hf
 obtain ⟨c, hc⟩ : ∃ c, countC L f t = c := ⟨_, rfl⟩
 have Hcc := Lib.hid hc
 rw [hc]
 clear hc
 obtain ⟨m, e1⟩ := c
 simp only
 go_wp2_with fail
 have HR := rCount_any (cap := cap) (f := f) (t := t) L H.out Hl.out hn
 rw [Hcc.out] at HR
 refine HR.mono ?_
 rintro e w3 ⟨rfl, hf⟩
 have F := Lib.hid (F.out.trans hf)
 have H := Lib.hid (H.out.later hf)
 have HV := Lib.hid (HV.out.later hf)
 clear hf HR
 simp only
 go_wp2_with fail
 refine (Times_any (cap := vc) L HV.out Hl.out hn).mono ?_
 rintro e w4 ⟨u, rfl, hu, hf⟩
 have F := Lib.hid (F.out.trans hf)
 have H := Lib.hid (H.out.later hf)
 have HV := Lib.hid (HV.out.later hf)
 obtain ⟨e2, he2⟩ : ∃ c : Int, (if AscE L then (0 : Int) else 110) = c := ⟨_, rfl⟩
 obtain ⟨T, hT⟩ : ∃ c : List Int, (if AscE L then timesC L else []) = c := ⟨_, rfl⟩
 have hTl : (if AscE L then (timesC L).length else 0) = T.length := by rw [← hT]; split <;> rfl
 rw [hTl, hT] at hu
 rw [he2]
 obtain ⟨ua, uc, rfl, _, hui⟩ := IsIn.of_own hu
 have HU := Lib.hid hui
 have He2 := Lib.hid he2
 have HT := Lib.hid hT
 have HTl := Lib.hid hTl
 clear hf hu hui he2 hT hTl
 go_wp2_with fail
 have HR := rTimes_any (cap := cap) L H.out Hl.out hn
 rw [He2.out, HT.out, HTl.out] at HR
 refine HR.mono ?_
 rintro e w5 ⟨x, rfl, hx, hf⟩
 have F := Lib.hid (F.out.trans hf)
 have H := Lib.hid (H.out.later hf)
 have HV := Lib.hid (HV.out.later hf)
 have HU := Lib.hid (HU.out.later hf)
 obtain ⟨xa, xc, rfl, _, hxi⟩ := IsIn.of_own hx
 have HX := Lib.hid hxi
 have hTn : T.length ≤ 10000 := by
  have h1 := HTl.out
  have h2 := cuE_len L n
  rw [cuE_all Hl.out] at h2
  rw [← h1]
  split <;> omega
 obtain ⟨tn, htn⟩ : ∃ c, T.length = c := ⟨_, rfl⟩
 have Htn := Lib.hid htn
 rw [htn] at hTn ⊢
 clear hf hx hxi HR htn
 go_wp2_with fail
 have HQ := sameIs_any ua xa tn tn uc xc T T w5 Htn.out Htn.out (by omega) (by omega) HU.out HX.out
 rw [show decide (T = T) = true from decide_eq_true rfl] at HQ
 refine HQ.mono ?_
 clear HQ
 rintro e w6 ⟨rfl, hf⟩
 have F := Lib.hid (F.out.trans hf)
 have H := Lib.hid (H.out.later hf)
 have HV := Lib.hid (HV.out.later hf)
 clear hf
 go_wp2_with fail
 have HQ := sameEs_any va a n n vc cap L L w6 Hl.out Hl.out (by omega) (by omega) HV.out H.out
 rw [show decide (L = L) = true from decide_eq_true rfl] at HQ
 refine HQ.mono ?_
 clear HQ
 rintro e w7 ⟨rfl, hf⟩
 have F := Lib.hid (F.out.trans hf)
 clear hf
 go_wp2_with fail
 go_ret
 exact ⟨rfl, F.out⟩
set_option maxRecDepth 100000 in
set_option maxHeartbeats 4000000 in
theorem CalendarCounts_any {w : World} {a : Option Addr} {n cap : Nat} {f t : Int} (L : List Ev) (h : EsIn w a L) (hl : L.length = n) :
  Calls Try.prog 4 #[.slice a n cap, .int .i64 f, .int .i64 t] w fun e w' => e = .returned (.bool true) ∧ Fr0 none' w w' := by
 have HA := Lib.hid (fun (W : World) => cawake_any W)
 by_cases h60 : n > 60
 ·have d1 : decide ((n : Int) > 60) = true := decide_eq_true (by omega)
  have d2 : decide ((60 : Int) < (n : Int)) = true := decide_eq_true (by omega)
  clear h hl h60
  go_enter Try.func4, Try.ntmps4
  go_wp2_with fail
  refine (HA.out _).mono ?_
  rintro e w1 ⟨rfl, hf⟩
  have F := Lib.hid hf
  clear hf
  go_wp2_with fail
  go_ret
  exact ⟨rfl, F.out⟩
 ·have HC := Lib.hid (counts_any (cap := cap) (f := f) (t := t) L h hl (by omega))
  have d1 : decide ((n : Int) > 60) = false := decide_eq_false (by omega)
  have d2 : decide ((60 : Int) < (n : Int)) = false := decide_eq_false (by omega)
  clear h hl h60
  go_enter Try.func4, Try.ntmps4
  go_wp2_with fail
  refine HC.out.mono ?_
  rintro e w1 ⟨rfl, hf⟩
  have F := Lib.hid hf
  clear hf
  go_wp2_with fail
  refine (HA.out _).mono ?_
  rintro e w2 ⟨rfl, hf⟩
  have F := Lib.hid (F.out.trans hf)
  clear hf
  go_wp2_with fail
  go_ret
  exact ⟨rfl, F.out⟩
end Go.Proofs.Ytmbjfmlicffclaa

namespace Go.Proofs.Ytmbjfmlicffclaa.calendarCounts
open Go.ChangeShapes Go.WideShapes Go.ChangeAt Go.RowKit Go.Proofs.Ytmbjfmlicffclaa

set_option maxRecDepth 100000 in
theorem lifted (os : Os) (started : os.Started) (H : Type) (enc : TypeId × Value → H) :
  ReturnsInHanded {} Try.checked os 4 .any (Rows.calendarCountsSpec.pre6 enc Try.prog Try.f4 Rows.calendarCountsRow.domain false) (Rows.calendarCountsSpec.post enc Try.prog Try.f4 false true false false) := by
 refine returnsInHanded_of_change (C := Try.checked) knobC started (by kernel_rfl) Try.func4
  (ChangeSpec.witness6 (enc := enc) (C := Try.checked) false ⟨#[], #[.slice none 0 0, .int .i64 0, .int .i64 0], []⟩ 8 (by kernel_rfl) (by kernel_rfl) (by kernel_rfl) (by kernel_rfl)) ?_
 intro W base args ds gs before hval0 hW hcnd _
 have hval : ∀ (j : Nat) t v, Try.f4.params[j]? = some t → args[j]? = some v → Value.okWide Try.prog W .any base t v := hval0
 have hW' := hW
 obtain ⟨p, q, hA0, hV, rfl, hfz, hnd⟩ := hW
 have hA : DataW.TrodAll enc Try.prog W 0 (fun _ => true) true Try.f4.params.toList args.toList ds p := hA0
 rw [Try.params4] at hA hval
 obtain ⟨v0, vs0, d0, ds0, p0, q0, hargs, rfl, rfl, h0, r0⟩ := trodAll_cons hA
 obtain ⟨v1, vs1, d1, ds1, p1, q1, rfl, rfl, rfl, h1, r1⟩ := trodAll_cons r0
 obtain ⟨v2, vs2, d2, ds2, p2, q2, rfl, rfl, rfl, h2, r2⟩ := trodAll_cons r1
 obtain ⟨rfl, rfl, rfl⟩ := trodAll_nil r2
 obtain rfl : args = #[v0, v1, v2] := by cases args; simp_all
 obtain ⟨rfl, rfl⟩ := trodVars_none hV
 clear hA0 hval0
 simp only [List.append_nil] at hW'
 have l0 : ∀ x ∈ p0, x.block < W.heap.size := fun x hx => hW'.lt x (by simp [hx])
 have t0 := fun W' (hb : Below W.heap.size W W') => Below.trod laidC (by kernel_rfl) (of_decide_eq_true (by kernel_rfl)) h0 hb l0
 have l1 : ∀ x ∈ p1, x.block < W.heap.size := fun x hx => hW'.lt x (by simp [hx])
 have t1 := fun W' (hb : Below W.heap.size W W') => Below.trod laidC (by kernel_rfl) (of_decide_eq_true (by kernel_rfl)) h1 hb l1
 have l2 : ∀ x ∈ p2, x.block < W.heap.size := fun x hx => hW'.lt x (by simp [hx])
 have t2 := fun W' (hb : Below W.heap.size W W') => Below.trod laidC (by kernel_rfl) (of_decide_eq_true (by kernel_rfl)) h2 hb l2
 obtain ⟨la, lk, lc, L, rfl, hL, hlk, hlc⟩ := events_argC (hval 0 24 v0 rfl rfl) h0
 obtain ⟨a1, rfl, _, _, w1⟩ := open_int Try.underlying3 (hval 1 3 v1 rfl rfl) h1
 obtain ⟨a2, rfl, _, _, w2⟩ := open_int Try.underlying3 (hval 2 3 v2 rfl rfl) h2
 refine (CalendarCounts_any (f := a1) (t := a2) L hL hlk).mono fun e W' ⟨he, hf⟩ => ?_
 have hg : Below W.heap.size W W' := hf.below (Nat.le_refl _) (fun _ _ h => h)
 subst he
 exact ⟨_, rfl, post_belowC (pa := p0 ++ (p1 ++ (p2 ++ ([])))) (pv := []) hW' (fun _ _ _ => (trodAll_cons_mk (shut_bool Try.underlying4 _) trodAll_mk0)) (trodAll_cons_mk (t0 _ hg) (trodAll_cons_mk (t1 _ hg) (trodAll_cons_mk (t2 _ hg) trodAll_mk0))) (fun _ _ => rfl) hg⟩

theorem over : Rows.calendarCountsRow.holds Try.pinned (OpenSpec.ofChange Rows.calendarCountsSpec) :=
 OpenClaim.holds_of_wide 4 Try.f4 rfl rfl rfl rfl rfl rfl rfl ⟨rfl, rfl, rfl, rfl, rfl⟩ rfl rfl rfl rfl rfl (by kernel_rfl) Try.func4 (by kernel_rfl)
  (of_decide_eq_true (by kernel_rfl)) (by unfold Func.isWrapper; first | (rw [if_pos (by decide +kernel)]; kernel_rfl) | (rw [if_neg (by decide +kernel)]; exact ⟨rfl, rfl⟩))
  (fun os started H enc _ => lifted os started H enc)

theorem proved : Rows.CalendarCountsSaid := over
#print axioms proved
end Go.Proofs.Ytmbjfmlicffclaa.calendarCounts
