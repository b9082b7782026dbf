/-
  What the reference's Join answers: plain Lean.
-/
import Derived.Test.YtnanleopoedgfaaRefM
set_option linter.unusedSimpArgs false
set_option linter.unusedVariables false
namespace Go.Proofs.Ytnanleopoedgfaa
open Go.RowKit

theorem cut_glue (xs : List Bs) (hne : xs ≠ []) (h : ∀ p ∈ xs, ∀ c ∈ p, c ≠ 46) : cut (glue xs) = xs := by
  induction xs with
  | nil => exact absurd rfl hne
  | cons x r ih =>
    cases r with
    | nil => simp only [glue]; exact cut_free' x (h x (by simp))
    | cons y t =>
      simp only [glue]
      rw [cut_dot, cut_free' x (h x (by simp)), ih (by simp) (fun p hp => h p (by simp [hp]))]; rfl
theorem indexByte_ge (l : Bs) (c : UInt8) : -1 ≤ Lib.indexByte l c := by
  induction l with
  | nil => exact Int.le_refl _
  | cons x r ih =>
    simp only [Lib.indexByte]
    split
    · omega
    · split <;> omega
theorem dotFree_cons (x : UInt8) (r : Bs) (h : dotFree (x :: r) = true) : x ≠ 46 ∧ dotFree r = true := by
  have hg := indexByte_ge r 46
  have h' : Lib.indexByte (x :: r) 46 < 0 := by simpa [dotFree] using h
  rw [Lib.indexByte] at h'
  replace h := h'
  show x ≠ 46 ∧ decide (Lib.indexByte r 46 < 0) = true
  rw [decide_eq_true_eq]
  by_cases hx : (x == 46) = true
  · rw [if_pos hx] at h; omega
  · rw [if_neg hx] at h
    refine ⟨by simpa using hx, ?_⟩
    by_cases hr : (Lib.indexByte r 46 == -1) = true
    · have : Lib.indexByte r 46 = -1 := by simpa using hr
      omega
    · rw [if_neg hr] at h; omega
theorem dotFree_free {p : Bs} (h : dotFree p = true) : ∀ c ∈ p, c ≠ 46 := by
  induction p with
  | nil => intro c hc; simp at hc
  | cons x r ih =>
    have h1 := dotFree_cons x r h
    intro c hc
    rcases List.mem_cons.1 hc with rfl | hc
    · exact h1.1
    · exact ih h1.2 c hc
theorem part_dotFree {p : Bs} (h : partB p = true) : dotFree p = true := by
  have h1 := ((partB_iff p).1 h).2.1
  have : ∀ c ∈ p, c ≠ 46 := by
    rintro c hc rfl
    obtain ⟨i, hi, hx⟩ := List.getElem_of_mem hc
    have h2 := h1 i hi
    rw [show p.getD i 0 = 46 from by rw [List.getD_eq_getElem?_getD, List.getElem?_eq_getElem hi, hx]; rfl] at h2
    rw [okc_iff] at h2
    rcases h2 with h2 | h2
    · exact absurd h2 (by decide)
    · exact absurd h2 (by decide)
  simp [dotFree, indexByte_none p this]
theorem joinOk_parts {xs : List Bs} (h : joinOk xs = true) : xs ≠ [] ∧ cut (joinB xs) = xs ∧ xs.all partB = true ∧ (joinB xs).length ≤ 32 := by
  unfold joinOk at h
  simp only [Bool.and_eq_true] at h
  obtain ⟨⟨h1, _⟩, h3⟩ := h
  have hne : xs ≠ [] := by
    rintro rfl
    have : rightB (joinB []) = false := rfl
    rw [this] at h3; cases h3
  have hcut : cut (joinB xs) = xs := by
    rw [glue_join]
    exact cut_glue xs hne (fun p hp => dotFree_free (List.all_eq_true.1 h1 p hp))
  rw [rightB_cut, hcut] at h3
  simp only [Bool.and_eq_true, decide_eq_true_eq] at h3
  exact ⟨hne, hcut, h3.2, h3.1.1⟩
theorem joinB_take_len (xs : List Bs) (k : Nat) : (joinB (xs.take k)).length ≤ (joinB xs).length := by
  rw [glue_join, glue_join]
  by_cases h1 : xs.take k = []
  · rw [h1]; simp [glue]
  · by_cases h2 : xs.drop k = []
    · have := List.take_append_drop k xs
      rw [h2, List.append_nil] at this
      rw [this]; exact Nat.le_refl _
    · have := glue_append _ _ h1 h2
      rw [List.take_append_drop] at this
      rw [this, List.length_append]; omega
theorem joinOk_no {xs : List Bs} {k : Nat} {x : Bs} (hx : xs[k]? = some x) (h : partB x = false ∨ 32 < (joinB (xs.take k)).length ∨ 32 < x.length) : joinOk xs = false := by
  rw [Bool.eq_false_iff]
  intro hj
  obtain ⟨_, hcut, hall, hlen⟩ := joinOk_parts hj
  have hm := List.mem_of_getElem? hx
  rcases h with h | h | h
  · have := List.all_eq_true.1 hall x hm
    rw [h] at this; cases this
  · have := joinB_take_len xs k; omega
  · have := cut_head_len (joinB xs) x (by rw [hcut]; exact hm)
    omega
theorem joinOk_all {xs : List Bs} (h : xs.all partB = true) : joinOk xs = rightB (joinB xs) := by
  have hd : xs.all dotFree = true := List.all_eq_true.2 fun p hp => part_dotFree (List.all_eq_true.1 h p hp)
  unfold joinOk
  rw [hd]
  cases hr : rightB (joinB xs) with
  | false => simp
  | true =>
    have hne : xs ≠ [] := by
      rintro rfl
      have : rightB (joinB []) = false := rfl
      rw [this] at hr; cases hr
    have hcut : cut (joinB xs) = xs := by
      rw [glue_join]
      exact cut_glue xs hne (fun p hp => dotFree_free (List.all_eq_true.1 hd p hp))
    have h1 := cut_sum (joinB xs)
    have h2 := rightB_len hr
    rw [hcut] at h1
    simp; omega
theorem joinB_snoc (l : List Bs) (x : Bs) : joinB (l ++ [x]) = if l = [] then x else joinB l ++ 46 :: x := by
  rw [glue_join, glue_join]
  split
  · next h => subst h; rfl
  · next h => rw [glue_append _ _ h (by simp)]; rfl
theorem joinB_take {xs : List Bs} {k : Nat} {x : Bs} (hx : xs[k]? = some x) : joinB (xs.take (k + 1)) = if k = 0 then x else joinB (xs.take k) ++ 46 :: x := by
  have hk : k < xs.length := (List.getElem?_eq_some_iff.1 hx).1
  rw [List.take_add_one, hx]
  show joinB (xs.take k ++ [x]) = _
  rw [joinB_snoc]
  by_cases h : k = 0
  · subst h; simp
  · rw [if_neg h, if_neg (by intro h2; have := congrArg List.length h2; rw [List.length_take, List.length_nil] at this; omega)]
end Go.Proofs.Ytnanleopoedgfaa
