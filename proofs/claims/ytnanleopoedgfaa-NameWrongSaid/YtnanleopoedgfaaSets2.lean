/-
  One name more, one name less: plain Lean.
-/
import Derived.Test.YtnanleopoedgfaaSetOf
import Derived.Test.YtnanleopoedgfaaIns
set_option linter.unusedSimpArgs false
set_option linter.unusedVariables false
namespace Go.Proofs.Ytnanleopoedgfaa
open Go.RowKit

theorem lowN_cons (y : Bs) (r : List Bs) (s : Bs) : lowN (y :: r) s = if 0 ≤ ordN y s then 0 else lowN r s + 1 := by
  unfold lowN; rw [List.findIdx_cons]
  by_cases h : 0 ≤ ordN y s
  · simp [h]
  · simp [h]
/-- A name more. -/
theorem insB_there (s : Bs) (xs : List Bs) (h : isAt xs s (lowN xs s) = true) : insB s xs = xs := by
  induction xs with
  | nil => simp [isAt, lowN] at h
  | cons y r ih =>
    rw [lowN_cons] at h
    by_cases h0 : 0 ≤ ordN y s
    · rw [if_pos h0] at h
      have : y = s := by simpa [isAt] using h
      rw [insB, if_neg (by omega), if_pos this]
    · rw [if_neg h0] at h
      rw [insB, if_pos (by omega), ih (by simpa [isAt] using h)]
theorem insB_none (s : Bs) (xs : List Bs) (h : isAt xs s (lowN xs s) = false) : insB s xs = insL xs (lowN xs s) s := by
  induction xs with
  | nil => rfl
  | cons y r ih =>
    rw [lowN_cons] at h ⊢
    by_cases h0 : 0 ≤ ordN y s
    · rw [if_pos h0] at h ⊢
      have : y ≠ s := by simpa [isAt] using h
      rw [insB, if_neg (by omega), if_neg this]; rfl
    · rw [if_neg h0] at h ⊢
      rw [insB, if_pos (by omega), ih (by simpa [isAt] using h)]; rfl
theorem isAt_mem {s : Bs} {xs : List Bs} (hset : SortedL xs) : isAt xs s (lowN xs s) = true ↔ s ∈ xs := by
  induction xs with
  | nil => simp [isAt, lowN]
  | cons y r ih =>
    obtain ⟨h1, h2⟩ := List.pairwise_cons.1 hset
    rw [lowN_cons]
    by_cases h0 : 0 ≤ ordN y s
    · rw [if_pos h0, List.mem_cons]
      constructor
      · intro h
        have hy : y = s := by simpa [isAt] using h
        exact .inl hy.symm
      · rintro (h | h)
        · simp [isAt, h]
        · exact absurd (h1 s h) (by omega)
    · rw [if_neg h0, List.mem_cons]
      have h3 : isAt (y :: r) s (lowN r s + 1) = isAt r s (lowN r s) := by simp [isAt]
      rw [h3, ih h2]
      constructor
      · exact .inr
      · rintro (h | h)
        · subst h; exact absurd (ordN_cmp.eq s s |>.2 rfl) (by omega)
        · exact h
/-- A name less. -/
def delB (s : Bs) (xs : List Bs) : List Bs := xs.filter (fun x => decide (x ≠ s))
theorem delB_at (s : Bs) (xs : List Bs) (hset : SortedL xs) (h : isAt xs s (lowN xs s) = true) : delB s xs = xs.take (lowN xs s) ++ xs.drop (lowN xs s + 1) := by
  induction xs with
  | nil => simp [isAt, lowN] at h
  | cons y r ih =>
    obtain ⟨h1, h2⟩ := List.pairwise_cons.1 hset
    rw [lowN_cons] at h ⊢
    by_cases h0 : 0 ≤ ordN y s
    · rw [if_pos h0] at h ⊢
      have hy : y = s := by simpa [isAt] using h
      subst hy
      simp only [delB, List.take_zero, List.nil_append, Nat.zero_add, List.drop_succ_cons, List.drop_zero]
      rw [List.filter_cons_of_neg (by simp)]
      refine List.filter_eq_self.2 fun z hz => ?_
      have : z ≠ y := fun e => by subst e; exact ord_irrefl z (h1 z hz)
      simpa using this
    · rw [if_neg h0] at h ⊢
      have hy : y ≠ s := fun e => by subst e; exact absurd (ordN_cmp.eq y y |>.2 rfl) (by omega)
      have := ih h2 (by simpa [isAt] using h)
      simp only [delB] at this ⊢
      rw [List.filter_cons_of_pos (by simpa using hy), this]
      rfl
theorem delB_none (s : Bs) (xs : List Bs) (h : s ∉ xs) : delB s xs = xs := List.filter_eq_self.2 fun z hz => by
  have : z ≠ s := fun e => h (e ▸ hz)
  simpa using this
theorem delB_mem (s z : Bs) (xs : List Bs) : z ∈ delB s xs ↔ z ∈ xs ∧ z ≠ s := by simp [delB]
theorem delB_sorted (s : Bs) (xs : List Bs) (h : SortedL xs) : SortedL (delB s xs) := h.sublist List.filter_sublist

/-- What Add and Drop make, and their errors. -/
def addL (xs : List Bs) (s : Bs) : List Bs := if setB xs && rightB s && (decide (s ∈ xs) || decide (xs.length < 256)) then insB s xs else []
def addE (xs : List Bs) (s : Bs) : Int := if setB xs = false then 41 else if rightB s = false then 40 else if s ∈ xs then 0 else if xs.length < 256 then 0 else 5
def dropL (xs : List Bs) (s : Bs) : List Bs := if setB xs && rightB s && decide (s ∈ xs) then delB s xs else []
def dropE (xs : List Bs) (s : Bs) : Int := if setB xs = false then 41 else if rightB s = false then 40 else if s ∈ xs then 0 else 6
end Go.Proofs.Ytnanleopoedgfaa
