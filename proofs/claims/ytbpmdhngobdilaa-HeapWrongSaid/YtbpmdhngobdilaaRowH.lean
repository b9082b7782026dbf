/-
  A slice of small numbers among the arguments; the row's post, the arguments read from below.
-/
import Derived.Test.YtbpmdhngobdilaaRows
import Derived.Test.YtbpmdhngobdilaaHl4
import Derived.WalkKit
import Derived.ProofKit
import Derived.OpenShut
import Derived.ChangeMaps5
import Derived.Carry
import Derived.Deep.Slices
import Derived.Deep.Fields
import Derived.ChangeSame
import Derived.Lib.SmallJoins
namespace Go.Proofs.Ytbpmdhngobdilaa
open Go.ChangeShapes Go.WideShapes Go.ChangeAt Go.RowKit Go.Deep Go.Joins

theorem post_below2 {H : Type} {enc : TypeId × Value → H} {P : Program} {f : Func} {s : ChangeSpec} {apart fresh handsOn : Bool} {W W' : World} {args : Array Value} {v : Value} {ds gs : List (DataW H)} {before pa pv : List MemPlace}
    (hW : DataW.Whole enc P f.params.toList s.vars apart W args.toList ds gs before)
    (hres : ∀ (b : Nat) (sp : Nat → Bool) (hd : Bool), DataW.TrodAll enc P W' b sp hd f.resultTypes.toList (v.resultList f.resultTypes.size) (s.fn H (ds ++ gs)).results [])
    (hargs : DataW.TrodAll enc P W' 0 (fun b => decide (b < W.heap.size)) true f.params.toList args.toList (s.fn H (ds ++ gs)).args pa)
    (hvars : ∀ sp : Nat → Bool, (∀ p ∈ before, sp p.block = true) → DataW.TrodVars enc P W' sp s.vars (s.fn H (ds ++ gs)).vars pv)
    (hb : Below W.heap.size W W') :
    s.post enc P f apart fresh handsOn false W args v W' := by
  have hold : ∀ p ∈ before, (fun b => decide (b < W.heap.size)) p.block = true := fun p hp => by simpa using hW.lt p hp
  exact ⟨ds, gs, before, [], pa, pv, hW, hres _ _ _, hargs, hvars _ hold, hb.frame _, fun h => by cases h⟩
theorem laid_own : laidOutB Try.prog = true := by kernel_rfl
theorem own_knob : ownKnob Try.prog.godebug = none := by kernel_rfl

theorem list_of {α : Type} {P : Nat → α → Prop} : ∀ n, (∀ i, i < n → ∃ x, P i x) → ∃ xs : List α, xs.length = n ∧ ∀ j x, xs[j]? = some x → P j x
  | 0, _ => ⟨[], rfl, fun j x h => by simp at h⟩
  | n + 1, h => by
    obtain ⟨xs, hl, hx⟩ := list_of n (fun i hi => h i (by omega))
    obtain ⟨x, hp⟩ := h n (by omega)
    refine ⟨xs ++ [x], by simp [hl], fun j y hj => ?_⟩
    rcases Nat.lt_or_ge j xs.length with hjl | hjl
    · rw [List.getElem?_append_left hjl] at hj; exact hx j y hj
    · rw [List.getElem?_append_right hjl] at hj
      have : j - xs.length = 0 := by
        rcases Nat.eq_zero_or_pos (j - xs.length) with h0 | h0
        · exact h0
        · rw [List.getElem?_eq_none (by simp; omega)] at hj; cases hj
      rw [this] at hj
      simp at hj
      subst hj
      rw [show j = n by omega]; exact hp
theorem small_fields {H : Type} {enc : TypeId × Value → H} {w : World} {n : Nat} {v : Value} {y : DataW H × List MemPlace} (h : DataW.trod enc Try.prog w 0 (fun _ => true) true n 5 [v] = some y) : ∃ a, v = .int .u8 a ∧ 0 ≤ a ∧ a < 256 := by
  obtain ⟨a, h1, _, hw⟩ := DataW.trod_int Try.underlying5 h
  injection h1 with h1 _
  have := bounds_u8 hw
  exact ⟨a, h1, this.1, by omega⟩

set_option maxRecDepth 100000 in
/-- A slice of small numbers, opened. -/
theorem smalls_arg {base : Nat} {H : Type} {enc : TypeId × Value → H} {W : World} {v : Value} {d : DataW H} {ps : List MemPlace}
    (hval : Value.okWide Try.prog W .any base 22 v) (h : DataW.Trod enc Try.prog W 0 (fun _ => true) true 22 v d ps) : ∃ xs, SmallsAt W v xs := by
  obtain ⟨A, n, cap, rfl⟩ := okWide_slice Try.underlying22 hval
  obtain ⟨fuel, hf⟩ := h
  rcases open_slice Try.underlying22 hf with ⟨hcs, _⟩ | ⟨a, len, cap', m, _, D, Pl, hcs, _, hl, hm, hz, _, hi⟩
  · simp [Value.cells] at hcs
    obtain ⟨rfl, rfl, rfl⟩ := hcs
    exact ⟨[], none, 0, rfl, Nat.le_refl _, fun j x hj => by simp at hj⟩
  · simp [Value.cells] at hcs
    obtain ⟨rfl, rfl, rfl⟩ := hcs
    have hmn : n ≤ m := by rw [hz]; split <;> omega
    have key : ∀ i, i < n → ∃ x : Sm4, x.ok ∧ ∃ g o, a = ⟨g, o, none⟩ ∧ W.cell? ⟨g, o + i * 4, none⟩ = some (.int .u8 x.kind) ∧ W.cell? ⟨g, o + i * 4 + 1, none⟩ = some (.int .u8 x.place) ∧ W.cell? ⟨g, o + i * 4 + 2, none⟩ = some (.int .u8 x.time) ∧ W.cell? ⟨g, o + i * 4 + 3, none⟩ = some (.int .u8 x.source) := fun i hin => by
      obtain ⟨cs, hc, ht⟩ := hi i (by omega)
      rw [show Try.prog.cellsOf 36 = 4 by kernel_rfl] at hc
      obtain ⟨ys, k, _, _, _, hyl, hfl⟩ := DataW.trod_struct Try.underlying36 ht
      obtain ⟨_, hcl, hat⟩ := World.cells?_some hc
      have hone : Try.prog.cellsOf 5 = 1 := by kernel_rfl
      match cs, hcl with
      | [v0, v1, v2, v3], _ =>
      have c0 := hat 0 (by omega)
      have c1 := hat 1 (by omega)
      have c2 := hat 2 (by omega)
      have c3 := hat 3 (by omega)
      have f0 : DataW.trod enc Try.prog W 0 (fun _ => true) true k 5 (([v0, v1, v2, v3].drop 0).take (Try.prog.cellsOf 5)) = ys[0]? := hfl 0 _ rfl
      have f1 : DataW.trod enc Try.prog W 0 (fun _ => true) true k 5 (([v0, v1, v2, v3].drop 1).take (Try.prog.cellsOf 5)) = ys[1]? := hfl 1 _ rfl
      have f2 : DataW.trod enc Try.prog W 0 (fun _ => true) true k 5 (([v0, v1, v2, v3].drop 2).take (Try.prog.cellsOf 5)) = ys[2]? := hfl 2 _ rfl
      have f3 : DataW.trod enc Try.prog W 0 (fun _ => true) true k 5 (([v0, v1, v2, v3].drop 3).take (Try.prog.cellsOf 5)) = ys[3]? := hfl 3 _ rfl
      rw [hone] at f0 f1 f2 f3
      have yl : ys.length = 4 := hyl
      have t0 : DataW.trod enc Try.prog W 0 (fun _ => true) true k 5 [v0] = some (ys[0]'(by omega)) := f0.trans (List.getElem?_eq_getElem _)
      have t1 : DataW.trod enc Try.prog W 0 (fun _ => true) true k 5 [v1] = some (ys[1]'(by omega)) := f1.trans (List.getElem?_eq_getElem _)
      have t2 : DataW.trod enc Try.prog W 0 (fun _ => true) true k 5 [v2] = some (ys[2]'(by omega)) := f2.trans (List.getElem?_eq_getElem _)
      have t3 : DataW.trod enc Try.prog W 0 (fun _ => true) true k 5 [v3] = some (ys[3]'(by omega)) := f3.trans (List.getElem?_eq_getElem _)
      obtain ⟨a0, rfl, l0, m0⟩ := small_fields t0
      obtain ⟨a1, rfl, l1, m1⟩ := small_fields t1
      obtain ⟨a2, rfl, l2, m2⟩ := small_fields t2
      obtain ⟨a3, rfl, l3, m3⟩ := small_fields t3
      obtain ⟨cs', hc', _⟩ := hi 0 (by omega)
      rw [show Try.prog.cellsOf 36 = 4 by kernel_rfl] at hc'
      obtain ⟨_, hcl', hat'⟩ := World.cells?_some hc'
      have z0 := hat' 0 (by omega)
      rw [List.getElem?_eq_getElem (by omega)] at z0
      obtain ⟨b, off, spot⟩ := a
      have hspot : spot = none := by simpa [Addr.add] using World.cell?_spot z0
      subst hspot
      rw [Addr.add_mid, Addr.add_mid] at c0 c1 c2 c3
      refine ⟨⟨a0, a1, a2, a3⟩, ⟨⟨l0, m0⟩, ⟨l1, m1⟩, ⟨l2, m2⟩, ⟨l3, m3⟩⟩, b, off, rfl, ?_, ?_, ?_, ?_⟩
      · exact c0
      · exact c1
      · exact c2
      · exact c3
    obtain ⟨xs, hxl, hx⟩ := list_of n key
    subst hxl
    refine ⟨xs, some a, cap, rfl, by simpa using hl, fun j x hj => ?_⟩
    obtain ⟨hok, g, o, rfl, q0, q1, q2, q3⟩ := hx j x hj
    exact ⟨hok, g, o, rfl, q0, q1, q2, q3⟩

set_option maxRecDepth 100000 in
/-- Small numbers by value, opened. -/
theorem small_arg {base : Nat} {H : Type} {enc : TypeId × Value → H} {W : World} {v : Value} {d : DataW H} {ps : List MemPlace}
    (hval : Value.okWide Try.prog W .any base 36 v) (h : DataW.Trod enc Try.prog W 0 (fun _ => true) true 36 v d ps) : ∃ x : Sm4, x.ok ∧ v = smV x := by
  obtain ⟨v0, v1, v2, v3, y0, y1, y2, y3, n, rfl, _, _, t0, t1, t2, t3⟩ := open_agg4 Try.underlying36 (by kernel_rfl) (by kernel_rfl) hval h
  obtain ⟨a0, rfl, l0, m0⟩ := small_fields t0
  obtain ⟨a1, rfl, l1, m1⟩ := small_fields t1
  obtain ⟨a2, rfl, l2, m2⟩ := small_fields t2
  obtain ⟨a3, rfl, l3, m3⟩ := small_fields t3
  exact ⟨⟨a0, a1, a2, a3⟩, ⟨⟨l0, m0⟩, ⟨l1, m1⟩, ⟨l2, m2⟩, ⟨l3, m3⟩⟩, rfl⟩
end Go.Proofs.Ytbpmdhngobdilaa
