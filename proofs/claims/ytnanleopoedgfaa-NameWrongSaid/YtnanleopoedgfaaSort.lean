/-
  slices.SortFunc(.., order) at names.
-/
import Derived.Test.YtnanleopoedgfaaSets
import Derived.Test.YtnanleopoedgfaaName
import Derived.Shelf.SlSortCmp.NoneTotal
import Derived.Sort.OwnSorted
import Derived.Lib.OwnBridge
import Derived.Lib.QuietBelow
set_option linter.unusedSimpArgs false
set_option linter.unusedVariables false
namespace Go.Proofs.Ytnanleopoedgfaa
open Go.RowKit Go.Sort

theorem grow_of_below {w w' : World} (h : Below w.heap.size w w') (hd : w.drawn ≤ w'.drawn) : ∃ q os', w' = grow (w.drewN q) os' := by
  obtain ⟨p, hp⟩ := regrown_of_below h
  have h1 : w'.drawn = p.d := by rw [hp]; rfl
  refine ⟨p.d - w.drawn, p.os, ?_⟩
  rw [hp]
  have h2 : redrawn w p.d = w.drewN (p.d - w.drawn) := by
    unfold redrawn
    have : w.drewN (p.d - w.drawn) = { w with drawn := w.drawn + (p.d - w.drawn) } := by
      first | rfl | simp [World.drewN]
    rw [this, show w.drawn + (p.d - w.drawn) = p.d from by omega]
  rw [h2]

abbrev Sm := { l : Bs // l.length ≤ 32 }
instance : Inhabited Sm := ⟨⟨[], by simp⟩⟩
def encSm (x : Sm) : Value := Go.Proofs.encStr x.1
def cfSm (x y : Sm) : Int := ordN x.1 y.1

theorem swoSm : SWO (ltOf cfSm) where
  irrefl x := decide_eq_false (ord_irrefl x.1)
  trans x y z h1 h2 := decide_eq_true (ordN_cmp.trans _ _ _ (of_decide_eq_true h1) (of_decide_eq_true h2))
  ntrans x y z h1 h2 := by
    have h1 := of_decide_eq_false h1
    have h2 := of_decide_eq_false h2
    refine decide_eq_false (fun h => ?_)
    have k1 := ordN_cmp.anti x.1 y.1
    have k2 := ordN_cmp.anti y.1 z.1
    have k3 := ordN_cmp.anti x.1 z.1
    unfold cfSm at h1 h2 h
    have := ordN_cmp.le_trans (a := z.1) (b := y.1) (c := x.1) (by omega) (by omega)
    omega
theorem totSm (x y : Sm) (h1 : ltOf cfSm x y = false) (h2 : ltOf cfSm y x = false) : x = y := by
  have h1 := of_decide_eq_false h1
  have h2 := of_decide_eq_false h2
  have k1 := ordN_cmp.anti x.1 y.1
  unfold cfSm at h1 h2
  exact Subtype.ext ((ordN_cmp.eq x.1 y.1).1 (by omega))

theorem laysSm (blk off size : Nat) (w : World) : CmpLays1 Try.prog 34 #[] encSm cfSm blk off size w := fun m os dk _ x y => by
  have hx := x.2
  have hy := y.2
  have h := order_dr (bs x.1) (bs y.1) (sortWorld encSm w blk off m dk os) (by rw [size_bs]; omega) (by rw [size_bs]; omega)
  rw [toList_bs, toList_bs] at h
  exact h.mono fun e w' h => ⟨h.1, grow_of_below h.2.1 h.2.2⟩

theorem get_map (f : Sm → Bs) (ys : List Sm) (j : Nat) (hj : j < ys.length) : (ys.map f).toArray[j]! = f ys.toArray[j]! := by
  rw [getElem!_pos (ys.map f).toArray j (by simpa using hj), getElem!_pos ys.toArray j (by simpa using hj)]
  simp
theorem holdsSm {w : World} {g o : Nat} {ys : List Sm} (h : Holds Go.Proofs.encStr w g o (ys.map (·.1)).toArray) : Holds encSm w g o ys.toArray := fun j hj => by
  have := h j (by simpa using hj)
  rw [get_map _ ys j (by simpa using hj)] at this
  exact this
theorem putRowSm (w : World) (g o : Nat) (ys : List Sm) : putRow encSm w g o ys.toArray = putRow Go.Proofs.encStr w g o (ys.map (·.1)).toArray := by
  unfold putRow
  congr 1
  funext c
  unfold putCells
  congr 1
  funext k x
  have hs : (ys.map (·.1)).toArray.size = ys.toArray.size := by simp
  rw [hs]
  by_cases hk : o ≤ k ∧ k < o + ys.toArray.size
  · rw [if_pos hk, if_pos hk, get_map _ ys (k - o) (by have := hk.2; simp at this; omega)]; rfl
  · rw [if_neg hk, if_neg hk]

/-- What slices.SortFunc leaves. -/
theorem sort_names (g cap n : Nat) (xs : List Bs) (w : World) (hx : ∀ p ∈ xs, p.length ≤ 32) (hH : Holds Go.Proofs.encStr w g 0 xs.toArray) (hg : g < w.heap.size) (hlen : xs.length = n) (hn : n < 4611686018427387904) :
    Calls Try.prog 40 #[.slice (some ⟨g, 0, none⟩) n cap, .func (.func 34) #[] #[]] w fun e w' => e = .returned (.tuple #[]) ∧
      ∃ (nn : Nat) (os : Array Obj) (zs : List Bs), zs.length = n ∧ Lib.compact zs = ofB xs ∧ w' = grow (putRow Go.Proofs.encStr (Sort.ahead w nn) g 0 zs.toArray) os := by
  obtain ⟨ys, hys⟩ : ∃ ys : List Sm, ys.map (·.1) = xs := ⟨xs.pmap Subtype.mk hx, by rw [List.map_pmap]; simp⟩
  have hyl : ys.length = n := by rw [← hlen, ← hys, List.length_map]
  have eg : ∀ args w, (callFunc 34 args).run Try.prog w = .ok (.enter 34 args) w := enters_of Try.func34 (by kernel_rfl) rfl
  have hS := Any.slices_SortFunc_total Try.laysSlF6_f40 encSm (fun _ => rfl) cfSm swoSm 34 #[] g 0 cap ys.toArray w eg (laysSm g 0 ys.toArray.size w) (holdsSm (by rw [hys]; exact hH)) hg (by simp; omega) totSm
  rw [show ys.toArray.size = n from by simpa using hyl] at hS
  refine Calls.mono hS ?_
  rintro e w' ⟨rfl, nn, os, hw⟩
  refine ⟨rfl, nn, os, (ys.mergeSort fun x y => !(ltOf cfSm) y x).map (·.1), by rw [List.length_map, List.length_mergeSort]; exact hyl, ?_, ?_⟩
  · refine compact_of _ xs ?_ ?_
    · rw [List.pairwise_map]
      have := List.pairwise_mergeSort (le := fun x y : Sm => !(ltOf cfSm) y x) (fun a b c h1 h2 => by
        simp only [Bool.not_eq_true'] at h1 h2 ⊢
        exact swoSm.ntrans _ _ _ h2 h1) (fun a b => by
        cases h : ltOf cfSm b a with
        | false => rfl
        | true =>
          have : ltOf cfSm a b = false := decide_eq_false (ord_asymm (of_decide_eq_true h))
          rw [this]; rfl) ys
      refine this.imp fun {a b} h => ?_
      simp only [Bool.not_eq_true'] at h
      have h1 := of_decide_eq_false h
      have h2 := ordN_cmp.anti a.1 b.1
      unfold cfSm at h1
      omega
    · intro z
      rw [← hys]
      simp [List.mem_mergeSort]
  · rw [hw]
    unfold sortWorld
    rw [putRowSm]
end Go.Proofs.Ytnanleopoedgfaa
