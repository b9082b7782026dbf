/-
  A row of cells, some of them put anew.
-/
import Derived.Laws.IdiomCopy
namespace Go.Proofs.Ytbpmdhngobdilaa

/-- The cells of a row, some of them put anew. -/
def over (cur : Array Value) : Nat → List Value → Array Value
  | _, [] => cur
  | o, v :: r => over (cur.setIfInBounds o v) (o + 1) r
theorem over_size : ∀ (vs : List Value) (o : Nat) (cur : Array Value), (over cur o vs).size = cur.size
  | [], _, _ => rfl
  | v :: r, o, cur => by rw [over, over_size r]; simp
theorem over_get : ∀ (vs : List Value) (o : Nat) (cur : Array Value) (j : Nat), (over cur o vs)[j]? = if o ≤ j ∧ j < o + vs.length ∧ j < cur.size then vs[j - o]? else cur[j]?
  | [], o, cur, j => by rw [over, if_neg]; simp; omega
  | v :: r, o, cur, j => by
    rw [over, over_get r (o + 1) _ j]
    simp only [Array.size_setIfInBounds, List.length_cons]
    by_cases h1 : j = o
    · subst h1
      rw [if_neg (by omega)]
      by_cases h2 : j < cur.size
      · rw [if_pos (by omega), Array.getElem?_setIfInBounds, if_pos rfl, if_pos h2]; simp
      · rw [if_neg (by omega), Array.getElem?_setIfInBounds, if_pos rfl, if_neg h2, Array.getElem?_eq_none (by omega)]
    · by_cases h2 : o + 1 ≤ j ∧ j < o + 1 + r.length ∧ j < cur.size
      · rw [if_pos h2, if_pos (by omega), show j - o = (j - (o + 1)) + 1 by omega, List.getElem?_cons_succ]
      · rw [if_neg h2, if_neg (by omega), Array.getElem?_setIfInBounds, if_neg (by omega)]
theorem heap_setCells_at {b : Nat} {e : TypeId} {fz : Nat × Nat} : ∀ (vs : List Value) (o : Nat) (w : World) (cur : Array Value), w.heap[b]? = some (.cells cur e fz) → (w.setCells b o vs).heap[b]? = some (.cells (over cur o vs) e fz)
  | [], _, _, _, h => h
  | v :: r, o, w, cur, h => by
    rw [World.setCells, over]
    refine heap_setCells_at r (o + 1) _ _ ?_
    simp [World.setCell, Array.getElem?_modify, h]
end Go.Proofs.Ytbpmdhngobdilaa
