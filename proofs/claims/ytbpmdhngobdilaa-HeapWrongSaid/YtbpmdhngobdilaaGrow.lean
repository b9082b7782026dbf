/-
  A world that has grown.
-/
import Derived.WalkKit
import Derived.Sort.OwnSorted
import Derived.Lib.QuietBelow
namespace Go.Proofs.Ytbpmdhngobdilaa
open Go.RowKit Go.Sort

theorem grow_of_below {w w' : World} (h : Below w.heap.size w w') (hd : w.drawn ≤ w'.drawn) : ∃ q os', w' = grow (w.drewN q) os' := by
  obtain ⟨p, hp⟩ := regrown_of_below h
  have h1 : w'.drawn = p.d := by rw [hp]; rfl
  refine ⟨p.d - w.drawn, p.os, ?_⟩
  rw [hp]
  have h2 : redrawn w p.d = w.drewN (p.d - w.drawn) := by
    unfold redrawn
    have : w.drewN (p.d - w.drawn) = { w with drawn := w.drawn + (p.d - w.drawn) } := by
      first | rfl | simp [World.drewN]
    rw [this, show w.drawn + (p.d - w.drawn) = p.d from by omega]
  rw [h2]
end Go.Proofs.Ytbpmdhngobdilaa
