/-
  A slice of strings among the arguments; the row's post, the arguments read from below.
-/
import Derived.Test.YtnanleopoedgfaaRow
import Derived.Test.YtnanleopoedgfaaApp
import Derived.SliceStrings
import Derived.ChangeMaps5
import Derived.Carry
set_option linter.unusedSimpArgs false
set_option linter.unusedVariables false
namespace Go.Proofs.Ytnanleopoedgfaa
open Go.ChangeShapes Go.WideShapes Go.ChangeAt Go.RowKit

theorem post_below2 {H : Type} {enc : TypeId × Value → H} {P : Program} {f : Func} {s : ChangeSpec} {apart fresh handsOn : Bool} {W W' : World} {args : Array Value} {v : Value} {ds gs : List (DataW H)} {before pa pv : List MemPlace}
    (hW : DataW.Whole enc P f.params.toList s.vars apart W args.toList ds gs before)
    (hres : ∀ (b : Nat) (sp : Nat → Bool) (hd : Bool), DataW.TrodAll enc P W' b sp hd f.resultTypes.toList (v.resultList f.resultTypes.size) (s.fn H (ds ++ gs)).results [])
    (hargs : DataW.TrodAll enc P W' 0 (fun b => decide (b < W.heap.size)) true f.params.toList args.toList (s.fn H (ds ++ gs)).args pa)
    (hvars : ∀ sp : Nat → Bool, (∀ p ∈ before, sp p.block = true) → DataW.TrodVars enc P W' sp s.vars (s.fn H (ds ++ gs)).vars pv)
    (hb : Below W.heap.size W W') :
    s.post enc P f apart fresh handsOn false W args v W' := by
  have hold : ∀ p ∈ before, (fun b => decide (b < W.heap.size)) p.block = true := fun p hp => by simpa using hW.lt p hp
  exact ⟨ds, gs, before, [], pa, pv, hW, hres _ _ _, hargs, hvars _ hold, hb.frame _, fun h => by cases h⟩

theorem laid_own : laidOutB Try.prog = true := by kernel_rfl

set_option maxRecDepth 100000 in
/-- A slice of strings, opened. -/
theorem strings_arg {base : Nat} {H : Type} {enc : TypeId × Value → H} {W : World} {v : Value} {d : DataW H} {ps : List MemPlace}
    (hval : Value.okWide Try.prog W .any base 22 v) (h : DataW.Trod enc Try.prog W 0 (fun _ => true) true 22 v d ps) :
    ∃ (A : Option Addr) (n cap : Nat) (xs : List ByteArray), v = .slice A n cap ∧ xs.length = n ∧ n ≤ cap ∧ n ≤ maxLen ∧ (∀ p ∈ xs, p.size ≤ maxLen) ∧ Cells W A (xs.map Value.string) ∧ (∀ b off s, A = some ⟨b, off, s⟩ → 0 < n → b < W.heap.size) := by
  obtain ⟨A, n, cap, rfl⟩ := okWide_slice Try.underlying22 hval
  obtain ⟨fuel, hf⟩ := h
  rcases open_strings Try.underlying22 Try.underlying9 (by kernel_rfl) hf with ⟨hcs, _⟩ | ⟨a, len, cap', ss, hcs, _, hl, hm, hz, _, hcell, hsz⟩
  · simp [Value.cells] at hcs
    obtain ⟨rfl, rfl, rfl⟩ := hcs
    exact ⟨none, 0, 0, [], rfl, rfl, Nat.le_refl _, by unfold maxLen; omega, by simp, fun j x hj => by simp at hj, fun b off s hs => by cases hs⟩
  · simp [Value.cells] at hcs
    obtain ⟨rfl, rfl, rfl⟩ := hcs
    have hlen : n ≤ ss.length := by rw [hz]; split <;> omega
    have hp : 0 < n → ∃ b off, a = ⟨b, off, none⟩ := fun h0 => by
      obtain ⟨b, off, spot⟩ := a
      have hspot : spot = none := by simpa [Addr.add] using World.cell?_spot (hcell 0 (by omega))
      exact ⟨b, off, by rw [hspot]⟩
    refine ⟨some a, n, cap, ss.take n, rfl, by rw [List.length_take]; omega, hl, by omega, fun p hp => hsz p (List.mem_of_mem_take hp), fun j x hj => ?_, fun b off s hs h0 => ?_⟩
    · have hj' : j < n := by
        have := (List.getElem?_eq_some_iff.1 hj).1
        rw [List.length_map, List.length_take] at this; omega
      obtain ⟨b, off, rfl⟩ := hp (by omega)
      refine ⟨b, off, rfl, ?_⟩
      have := hcell j (by omega)
      rw [Go.WideShapes.add_plain] at this
      rw [this]
      rw [List.getElem?_map, List.getElem?_take, if_pos hj', List.getElem?_eq_getElem (by omega)] at hj
      simp only [Option.map_some, Option.some.injEq] at hj
      rw [← hj]
      simp [List.getD, List.getElem?_eq_getElem (show j < ss.length by omega)]
    · have := World.block_lt_of_cell? W _ (hcell 0 (by omega))
      cases hs
      simpa [Addr.add] using this

set_option maxRecDepth 100000 in
/-- A slice of uint16, opened. -/
theorem nums_arg {base : Nat} {H : Type} {enc : TypeId × Value → H} {W : World} {v : Value} {d : DataW H} {ps : List MemPlace}
    (hval : Value.okWide Try.prog W .any base 36 v) (h : DataW.Trod enc Try.prog W 0 (fun _ => true) true 36 v d ps) :
    ∃ (A : Option Addr) (n cap : Nat) (ns : List Nat), v = .slice A n cap ∧ ns.length = n ∧ n ≤ cap ∧ cap ≤ maxLen ∧ (∀ x ∈ ns, x < 65536) ∧ Cells W A (ns.map fun n : Nat => Value.int .u16 (n : Int)) := by
  obtain ⟨A, n, cap, rfl⟩ := okWide_slice Try.underlying36 hval
  obtain ⟨fuel, hf⟩ := h
  rcases open_ints Try.underlying36 Try.underlying25 (by kernel_rfl) hf with ⟨hcs, _⟩ | ⟨a, len, cap', zs, hcs, _, hl, hm, hz, _, hcell, hwf⟩
  · simp [Value.cells] at hcs
    obtain ⟨rfl, rfl, rfl⟩ := hcs
    exact ⟨none, 0, 0, [], rfl, rfl, Nat.le_refl _, by unfold maxLen; omega, by simp, fun j x hj => by simp at hj⟩
  · simp [Value.cells] at hcs
    obtain ⟨rfl, rfl, rfl⟩ := hcs
    have hlen : n ≤ zs.length := by rw [hz]; split <;> omega
    have hp : 0 < n → ∃ b off, a = ⟨b, off, none⟩ := fun h0 => by
      obtain ⟨b, off, spot⟩ := a
      have hspot : spot = none := by simpa [Addr.add] using World.cell?_spot (hcell 0 (by omega))
      exact ⟨b, off, by rw [hspot]⟩
    refine ⟨some a, n, cap, (zs.take n).map Int.toNat, rfl, by rw [List.length_map, List.length_take]; omega, hl, hm, fun x hx => ?_, fun j x hj => ?_⟩
    · obtain ⟨z, hz, rfl⟩ := List.mem_map.1 hx
      have := bounds_u16 (hwf z (List.mem_of_mem_take hz))
      omega
    · have hj' : j < n := by
        have := (List.getElem?_eq_some_iff.1 hj).1
        rw [List.length_map, List.length_map, List.length_take] at this; omega
      obtain ⟨b, off, rfl⟩ := hp (by omega)
      refine ⟨b, off, rfl, ?_⟩
      have := hcell j (by omega)
      rw [Go.WideShapes.add_plain] at this
      rw [this]
      have hjz : j < zs.length := by omega
      rw [List.map_map, List.getElem?_map, List.getElem?_take, if_pos hj', List.getElem?_eq_getElem hjz] at hj
      simp only [Option.map_some, Option.some.injEq, Function.comp] at hj
      rw [← hj]
      have hb := bounds_u16 (hwf zs[j] (List.getElem_mem hjz))
      simp only [List.getD, List.getElem?_eq_getElem hjz, Option.getD_some]
      rw [Int.toNat_of_nonneg hb.1]
end Go.Proofs.Ytnanleopoedgfaa
