/-
  slices.SortFunc(.., order) and slices.Clone at entries; Order, Copy.
-/
import Derived.Test.YtbpmdhngobdilaaHpF
import Derived.Test.YtbpmdhngobdilaaGrow
import Derived.Test.YtbpmdhngobdilaaShelf
import Derived.Lib.OwnBridge
namespace Go.Proofs.Ytbpmdhngobdilaa
open Go.RowKit Go.Sort
attribute [local go_sem ↓] Go.wp_at_zero Go.wp_at_succ

theorem swoE : SWO (ltOf ordE) where
  irrefl x := decide_eq_false (by rw [ordE_ord.refl]; omega)
  trans x y z h1 h2 := decide_eq_true (ordE_ord.trans _ _ _ (of_decide_eq_true h1) (of_decide_eq_true h2))
  ntrans x y z h1 h2 := by
    have h1 := of_decide_eq_false h1
    have h2 := of_decide_eq_false h2
    refine decide_eq_false (fun h => ?_)
    have k1 := ordE_ord.anti x y
    have k2 := ordE_ord.anti y z
    have k3 := ordE_ord.anti x z
    have := ordE_ord.le_trans (a := z) (b := y) (c := x) (by omega) (by omega)
    omega
theorem totE (x y : Ent) (h1 : ltOf ordE x y = false) (h2 : ltOf ordE y x = false) : x = y := by
  have h1 := of_decide_eq_false h1
  have h2 := of_decide_eq_false h2
  have k1 := ordE_ord.anti x y
  exact (ordE_ord.eq x y).1 (by omega)
theorem laysE (blk off size : Nat) (w : World) : CmpLays Try.prog 36 #[] entCells 4 ordE blk off size w := fun m os dk _ x y =>
  (order_does x y (sortWorldK entCells 4 w blk off m dk os)).mono fun _ _ h => ⟨h.1, grow_of_below h.2.1 h.2.2⟩
theorem flatK_eq (zs : List Ent) : flatK entCells 4 zs.toArray = (flatE zs).toArray := by
  apply Array.ext
  · simp [flatE_length]
  · intro j h1 h2
    have hj : j < zs.length * 4 := by simpa [flatE_length] using h2
    have h3 := flatE_get zs (j / 4) (j % 4) (by omega) (by omega)
    rw [show 4 * (j / 4) + j % 4 = j by omega] at h3
    have h4 := get_flatK entCells 4 zs.toArray j (by simpa using hj)
    rw [getElem!_pos _ j h1] at h4
    rw [h4]
    have h5 : zs.toArray[j / 4]! = at' zs (j / 4) := by
      rw [getElem!_pos _ (j / 4) (by simp; omega)]; simp [at', List.getD_eq_getElem?_getD, List.getElem?_eq_getElem (show j / 4 < zs.length by omega)]
    rw [h5]
    have h6 : j % 4 < (entCells (at' zs (j / 4))).length := by simp [entCells]; omega
    rw [getElem!_pos (entCells (at' zs (j / 4))) (j % 4) h6]
    rw [List.getElem?_eq_getElem h6] at h3
    have h7 : (flatE zs)[j]? = some ((flatE zs)[j]'(by rw [flatE_length]; exact hj)) := List.getElem?_eq_getElem _
    rw [h7] at h3
    injection h3 with h3
    simp [h3]
theorem row_put {w : World} {base : Nat} {e : TypeId} {size g n cap q : Nat} {xs ys : List Value} {os : Array Obj} (h : w.ownsRow base e size (.slice (some ⟨g, 0, none⟩) n cap) n xs) (hy : ys.length = xs.length) :
    (grow (putRow id (Sort.ahead w q) g 0 ys.toArray) os).ownsRow base e size (.slice (some ⟨g, 0, none⟩) n cap) n ys := by
  have hxl := h.1
  rcases h.2 with ⟨e0, _⟩ | ⟨g', cap', cur, e0, hb, hg, hn, hm, hs, ht⟩
  · cases e0
  · injection e0 with e1 _ e3
    injection e1 with e1
    injection e1 with e1
    subst e1; subst e3
    have hgl : g < w.heap.size := (Array.getElem?_eq_some_iff.1 hg).1
    have hcs : n * size ≤ cur.size := by rw [hs]; exact Nat.mul_le_mul_right _ hn
    refine ⟨hy.trans hxl, .inr ⟨g, cap, putCells id 0 ys.toArray cur, rfl, hb, ?_, hn, hm, by simpa [putCells] using hs, ?_⟩⟩
    · simp only [grow]
      rw [Array.getElem?_append_left (by simp [putRow, mapBlock, Sort.ahead]; exact hgl)]
      simp [putRow, mapBlock, Sort.ahead, Array.getElem?_modify, hg, onCells]
    · apply List.ext_getElem?
      intro j
      rw [List.getElem?_take, Array.getElem?_toList]
      by_cases hj : j < n * size
      · have hjc : j < cur.size := by omega
        simp only [if_pos hj, putCells, Array.getElem?_mapIdx, Array.getElem?_eq_getElem hjc, Option.map_some]
        rw [if_pos (by simp; omega), List.getElem?_eq_getElem (by omega)]
        simp [getElem!_pos, show j < ys.length by omega]
      · rw [if_neg hj, List.getElem?_eq_none (by omega)]
theorem fr_put {w : World} {g q : Nat} {ys : Array Value} {os : Array Obj} : Fr (fun k => k = g) w (grow (putRow id (Sort.ahead w q) g 0 ys) os) := by
  refine ⟨rfl, rfl, rfl, by simp [grow, putRow, mapBlock, Sort.ahead], fun k hk hs => ?_, by simp [grow, putRow, mapBlock, Sort.ahead]⟩
  simp only [grow]
  rw [Array.getElem?_append_left (by simp [putRow, mapBlock, Sort.ahead]; exact hk)]
  simp [putRow, mapBlock, Sort.ahead, Array.getElem?_modify, show g ≠ k from fun e => hs e.symm]

/-- What slices.SortFunc leaves. -/
theorem sort_ents {base g cap n : Nat} {t : List Ent} {w : World} (h : w.ownsRow base 70 4 (.slice (some ⟨g, 0, none⟩) n cap) n (flatE t)) (hn : t.length = n) (hm : n ≤ 5000) :
    Calls Try.prog 35 #[.slice (some ⟨g, 0, none⟩) n cap, .func (.func 36) #[] #[]] w fun e w' => e = .returned (.tuple #[]) ∧
      ∃ zs : List Ent, zs.Perm t ∧ zs.Pairwise (fun a b => ordE a b ≤ 0) ∧ w'.ownsRow base 70 4 (.slice (some ⟨g, 0, none⟩) n cap) n (flatE zs) ∧ Fr (fun k => k = g) w w' := by
  have eg : ∀ args w, (callFunc 36 args).run Try.prog w = .ok (.enter 36 args) w := enters_of Try.func36 (by kernel_rfl) rfl
  have hg := h.lt g rfl
  have hz := h.cells (g := g) rfl
  have hfr : ∀ o, w.frozen? ⟨g, o, none⟩ = false := fun o => by
    rcases h.2 with ⟨e0, _⟩ | ⟨g', cap', cur, e0, hb, hg', _⟩
    · cases e0
    · injection e0 with e1
      injection e1 with e1
      injection e1 with e1
      subst e1
      exact frozen_at hg' o
  have hH : HoldsK entCells 4 w g 0 t.toArray := by
    unfold HoldsK
    rw [flatK_eq]
    intro j hj
    have hj' : j < (flatE t).length := by simpa using hj
    refine ⟨?_, hfr _⟩
    have h1 := hz j ((flatE t)[j]) (List.getElem?_eq_getElem hj')
    have h2 : (flatE t).toArray[j]! = (flatE t)[j] := by rw [getElem!_pos _ j hj]; simp
    rw [h2, Nat.zero_add]
    unfold Addr.add at h1
    split at h1
    · next h0 => subst h0; exact h1
    · simpa using h1
  have hS := AnyQ.slices_SortFunc_total Try.sortK_f35 4 Try.isAgg70 Try.sizeOf70 entCells (fun _ => rfl) (fun x v hv => flatE_one [x] v (by simpa [flatE] using hv)) ordE swoE 36 #[] g 0 cap t.toArray w eg (laysE g 0 t.toArray.size w) hH hg.2 (by simp; omega) totE
  rw [show t.toArray.size = n from by simpa using hn] at hS
  refine Calls.mono hS ?_
  rintro e w' ⟨rfl, nn, os, hw⟩
  refine ⟨rfl, t.mergeSort fun x y => !(ltOf ordE) y x, List.mergeSort_perm _ _, ?_, ?_, ?_⟩
  · have := List.pairwise_mergeSort (le := fun x y : Ent => !(ltOf ordE) y x) (fun a b c h1 h2 => by
      simp only [Bool.not_eq_true'] at h1 h2 ⊢
      exact swoE.ntrans _ _ _ h2 h1) (fun a b => by
      cases h : ltOf ordE b a with
      | false => rfl
      | true =>
        have : ltOf ordE a b = false := decide_eq_false (by have h1 := of_decide_eq_true h; have := ordE_ord.anti a b; omega)
        rw [this]; rfl) t
    refine this.imp fun {a b} h => ?_
    simp only [Bool.not_eq_true'] at h
    have h1 := of_decide_eq_false h
    have h2 := ordE_ord.anti a b
    omega
  · rw [hw]
    unfold sortWorldK putRowK
    dsimp only
    rw [flatK_eq]
    exact row_put h (by rw [flatE_length, flatE_length, List.length_mergeSort])
  · rw [hw]
    unfold sortWorldK putRowK
    exact fr_put
end Go.Proofs.Ytbpmdhngobdilaa
